/- Contracts of the two LeaderAt. Condition: the slice can be read. -/
import Derived.Test.YtciolimmfldpbaaHas
namespace Go.Proofs.Ytciolimmfldpbaa
open Go.RowKit

def laB (n : Nat) (xs : List Int) (s c : Int) : Bool := wayB n xs && inB s 1 24 && inB c 0 10000
def laL (n : Nat) (xs : List Int) (s c : Int) : Int := min (s * c) (lenTo xs (n - 1))
def laX (n : Nat) (xs : List Int) (s c : Int) : Int := if laB n xs s c = true then alX n xs (laL n xs s c) else 0
def laY (n : Nat) (xs : List Int) (s c : Int) : Int := if laB n xs s c = true then alY n xs (laL n xs s c) else 0
theorem la_no {n : Nat} {xs : List Int} {s c : Int} (h : laB n xs s c = false) : laB n xs s c = false ∧ laX n xs s c = 0 ∧ laY n xs s c = 0 := by simp [laX, laY, h]
theorem la_yes {n : Nat} {xs : List Int} {s c : Int} (h : laB n xs s c = true) : laB n xs s c = true ∧ laX n xs s c = alX n xs (laL n xs s c) ∧ laY n xs s c = alY n xs (laL n xs s c) := by simp [laX, laY, h]

set_option maxHeartbeats 1000000 in
theorem LeaderAt_any (v : Value) (n B : Nat) (xs : List Int) (s c : Int) (w : World) (hv : Rd w B 2 v n xs) (hB : B ≤ w.heap.size) (hn : n ≤ 1099511627776) :
    Calls Try.prog 13 #[v, .int .i64 s, .int .i64 c] w fun e w' => e = .returned (.tuple #[(Value.agg #[Value.int .i64 (laX n xs s c), Value.int .i64 (laY n xs s c)]), .bool (laB n xs s c)]) ∧ Below w.heap.size w w' := by
  obtain ⟨A, cc, rfl⟩ := hv.form
  have Hv := Lib.hid (hv.alloc hB (.cells #[.int .i64 0, .int .i64 0] 29))
  have k0 := Blk.new w 29 #[.int .i64 0, .int .i64 0]
  have z0 : (w.alloc (.cells #[.int .i64 0, .int .i64 0] 29)).heap.size = w.heap.size + 1 := by simp
  have HB0 := Lib.hid (below_new (Below.refl w.heap.size w) (.cells #[.int .i64 0, .int .i64 0] 29))
  have K0 := Lib.hid k0
  have Z0 := Lib.hid z0
  clear hv k0 z0
  cases h1 : wayB n xs with
  | false =>
    have hf := Lib.hid (la_no (s := s) (c := c) (show laB n xs s c = false by simp [laB, h1]))
    go_enter Try.func13, Try.ntmps13
    go_wp2_with fail
    refine (IsWay_any _ n B xs _ Hv.out (by rw [Z0.out]; omega) hn).mono ?_
    rintro e w1 ⟨rfl, hb1⟩
    have K1 := Lib.hid (K0.out.on hb1)
    have HB := Lib.hid (below_on HB0.out hb1)
    clear hb1
    obtain ⟨n0, n1⟩ := K1.out.c2
    have n2 := K1.out.frozen 0
    have n3 := K1.out.frozen 1
    go_wp2_with fail
    obtain ⟨m0, m1⟩ := (K1.out.set2 (.int .i64 0) (.int .i64 0)).c2
    exact bodyPost_ret (v := .tuple #[(Value.agg #[Value.int .i64 0, Value.int .i64 0]), .bool false]) (by simp [results, Try.results13, go_sem, m0, m1]) rfl
      ⟨by rw [hf.out.1, hf.out.2.1, hf.out.2.2], (HB.out.setCell (p := ⟨w.heap.size, 0, none⟩) (Nat.le_refl _) _).setCell (p := ⟨w.heap.size, 1, none⟩) (Nat.le_refl _) _⟩
  | true =>
    cases h2 : inB s 1 24 with
    | false =>
      have hf := Lib.hid (la_no (s := s) (c := c) (show laB n xs s c = false by simp [laB, h2]))
      go_enter Try.func13, Try.ntmps13
      go_wp2_with fail
      refine (IsWay_any _ n B xs _ Hv.out (by rw [Z0.out]; omega) hn).mono ?_
      rintro e w1 ⟨rfl, hb1⟩
      go_wp2_with fail
      refine (within_any _ _ _ _).mono ?_
      rintro e w' ⟨rfl, rfl⟩
      have K1 := Lib.hid (K0.out.on hb1)
      have HB := Lib.hid (below_on HB0.out hb1)
      clear hb1
      obtain ⟨n0, n1⟩ := K1.out.c2
      have n2 := K1.out.frozen 0
      have n3 := K1.out.frozen 1
      go_wp2_with fail
      obtain ⟨m0, m1⟩ := (K1.out.set2 (.int .i64 0) (.int .i64 0)).c2
      exact bodyPost_ret (v := .tuple #[(Value.agg #[Value.int .i64 0, Value.int .i64 0]), .bool false]) (by simp [results, Try.results13, go_sem, m0, m1]) rfl
        ⟨by rw [hf.out.1, hf.out.2.1, hf.out.2.2], (HB.out.setCell (p := ⟨w.heap.size, 0, none⟩) (Nat.le_refl _) _).setCell (p := ⟨w.heap.size, 1, none⟩) (Nat.le_refl _) _⟩
    | true =>
      cases h3 : inB c 0 10000 with
      | false =>
        have hf := Lib.hid (la_no (s := s) (c := c) (show laB n xs s c = false by simp [laB, h3]))
        go_enter Try.func13, Try.ntmps13
        go_wp2_with fail
        refine (IsWay_any _ n B xs _ Hv.out (by rw [Z0.out]; omega) hn).mono ?_
        rintro e w1 ⟨rfl, hb1⟩
        go_wp2_with fail
        refine (within_any _ _ _ _).mono ?_
        rintro e w' ⟨rfl, rfl⟩
        go_wp2_with fail
        refine (within_any _ _ _ _).mono ?_
        rintro e w' ⟨rfl, rfl⟩
        have K1 := Lib.hid (K0.out.on hb1)
        have HB := Lib.hid (below_on HB0.out hb1)
        clear hb1
        obtain ⟨n0, n1⟩ := K1.out.c2
        have n2 := K1.out.frozen 0
        have n3 := K1.out.frozen 1
        go_wp2_with fail
        obtain ⟨m0, m1⟩ := (K1.out.set2 (.int .i64 0) (.int .i64 0)).c2
        exact bodyPost_ret (v := .tuple #[(Value.agg #[Value.int .i64 0, Value.int .i64 0]), .bool false]) (by simp [results, Try.results13, go_sem, m0, m1]) rfl
          ⟨by rw [hf.out.1, hf.out.2.1, hf.out.2.2], (HB.out.setCell (p := ⟨w.heap.size, 0, none⟩) (Nat.le_refl _) _).setCell (p := ⟨w.heap.size, 1, none⟩) (Nat.le_refl _) _⟩
      | true =>
        have hf := Lib.hid (la_yes (s := s) (c := c) (show laB n xs s c = true by simp [laB, h1, h2, h3]))
        have hy := wayB_yes h1
        have HW := Lib.hid h1
        have HY := Lib.hid hy
        have hs1 := inB_yes h2
        have hs2 := inB_yes h3
        obtain ⟨s1, s2⟩ := hs1
        obtain ⟨s3, s4⟩ := hs2
        have hl := lenTo_in hy.2.1 (n - 1) (by omega)
        have hm := mul_in (x := s) (y := c) (a := 24) (b := 10000) (by omega) (by omega) (by omega) (by omega)
        have hm0 : 0 ≤ s * c := Int.mul_nonneg (by omega) (by omega)
        have HR := Lib.hid (show 0 ≤ laL n xs s c ∧ laL n xs s c ≤ lenTo xs (n - 1) by unfold laL; omega)
        have HLL := Lib.hid (show laL n xs s c = min (s * c) (lenTo xs (n - 1)) from rfl)
        obtain ⟨x, ex⟩ : ∃ x, alX n xs (laL n xs s c) = x := ⟨_, rfl⟩
        obtain ⟨y, ey⟩ : ∃ y, alY n xs (laL n xs s c) = y := ⟨_, rfl⟩
        have hP := fun (W : World) (h : Rd W B 2 (.slice A n cc) n xs) (hB : B ≤ W.heap.size) => spotAlong_any (.slice A n cc) n B xs (laL n xs s c) W h hB HW.out HR.out.1 HR.out.2
        rw [ex, ey] at hP
        rw [ex, ey] at hf
        rw [HLL.out] at hP
        skip
        have HP := Lib.hid hP
        have e1 := IntWalk.i64_in (s * c) (by omega)
        clear hP ex ey hy hl hm
        go_enter Try.func13, Try.ntmps13
        go_wp2_with fail
        refine (IsWay_any _ n B xs _ Hv.out (by rw [Z0.out]; omega) hn).mono ?_
        rintro e w1 ⟨rfl, hb1⟩
        go_wp2_with fail
        refine (within_any _ _ _ _).mono ?_
        rintro e w' ⟨rfl, rfl⟩
        go_wp2_with fail
        refine (within_any _ _ _ _).mono ?_
        rintro e w' ⟨rfl, rfl⟩
        have K1 := Lib.hid (K0.out.on hb1)
        have HB := Lib.hid (below_on HB0.out hb1)
        have Hv1 := Lib.hid (Hv.out.below' hb1 (by rw [Z0.out]; omega))
        clear hb1
        go_wp2_with fail
        refine (wayLength_any _ n B xs _ Hv1.out (Nat.le_trans hB HB.out.size) HY.out.1.1 HY.out.1.2 HY.out.2.1).mono ?_
        rintro e w2 ⟨rfl, hb2⟩
        have K2 := Lib.hid (K1.out.on hb2)
        have HB2 := Lib.hid (below_on HB.out hb2)
        have Hv2 := Lib.hid (Hv1.out.below' hb2 (Nat.le_trans hB HB.out.size))
        clear hb2
        skip
        go_wp2_with fail
        refine (HP.out _ Hv2.out (Nat.le_trans hB HB2.out.size)).mono ?_
        rintro e w3 ⟨rfl, hb3⟩
        have K3 := Lib.hid (K2.out.on hb3)
        have HB3 := Lib.hid (below_on HB2.out hb3)
        clear hb3
        obtain ⟨n0, n1⟩ := K3.out.c2
        have n2 := K3.out.frozen 0
        have n3 := K3.out.frozen 1
        go_wp2_with fail
        obtain ⟨m0, m1⟩ := (K3.out.set2 (.int .i64 x) (.int .i64 y)).c2
        exact bodyPost_ret (v := .tuple #[(Value.agg #[Value.int .i64 x, Value.int .i64 y]), .bool true]) (by simp [results, Try.results13, go_sem, m0, m1]) rfl
          ⟨by rw [hf.out.1, hf.out.2.1, hf.out.2.2], (HB3.out.setCell (p := ⟨w.heap.size, 0, none⟩) (Nat.le_refl _) _).setCell (p := ⟨w.heap.size, 1, none⟩) (Nat.le_refl _) _⟩
set_option maxHeartbeats 1000000 in
theorem specLeaderAt_any (v : Value) (n B : Nat) (xs : List Int) (s c : Int) (w : World) (hv : Rd w B 2 v n xs) (hB : B ≤ w.heap.size) (hn : n ≤ 1099511627776) :
    Calls Try.prog 14 #[v, .int .i64 s, .int .i64 c] w fun e w' => e = .returned (.tuple #[(Value.agg #[Value.int .i64 (laX n xs s c), Value.int .i64 (laY n xs s c)]), .bool (laB n xs s c)]) ∧ Below w.heap.size w w' := by
  obtain ⟨A, cc, rfl⟩ := hv.form
  have Hv := Lib.hid (hv.alloc hB (.cells #[.int .i64 0, .int .i64 0] 29))
  have k0 := Blk.new w 29 #[.int .i64 0, .int .i64 0]
  have z0 : (w.alloc (.cells #[.int .i64 0, .int .i64 0] 29)).heap.size = w.heap.size + 1 := by simp
  have HB0 := Lib.hid (below_new (Below.refl w.heap.size w) (.cells #[.int .i64 0, .int .i64 0] 29))
  have K0 := Lib.hid k0
  have Z0 := Lib.hid z0
  clear hv k0 z0
  cases h1 : wayB n xs with
  | false =>
    have hf := Lib.hid (la_no (s := s) (c := c) (show laB n xs s c = false by simp [laB, h1]))
    go_enter Try.func14, Try.ntmps14
    go_wp2_with fail
    refine (foGood_any _ n B xs _ Hv.out (by rw [Z0.out]; omega) hn).mono ?_
    rintro e w1 ⟨rfl, hb1⟩
    have K1 := Lib.hid (K0.out.on hb1)
    have HB := Lib.hid (below_on HB0.out hb1)
    clear hb1
    obtain ⟨n0, n1⟩ := K1.out.c2
    have n2 := K1.out.frozen 0
    have n3 := K1.out.frozen 1
    go_wp2_with fail
    obtain ⟨m0, m1⟩ := (K1.out.set2 (.int .i64 0) (.int .i64 0)).c2
    exact bodyPost_ret (v := .tuple #[(Value.agg #[Value.int .i64 0, Value.int .i64 0]), .bool false]) (by simp [results, Try.results14, go_sem, m0, m1]) rfl
      ⟨by rw [hf.out.1, hf.out.2.1, hf.out.2.2], (HB.out.setCell (p := ⟨w.heap.size, 0, none⟩) (Nat.le_refl _) _).setCell (p := ⟨w.heap.size, 1, none⟩) (Nat.le_refl _) _⟩
  | true =>
    cases h2 : inB s 1 24 with
    | false =>
      have hf := Lib.hid (la_no (s := s) (c := c) (show laB n xs s c = false by simp [laB, h2]))
      go_enter Try.func14, Try.ntmps14
      go_wp2_with fail
      refine (foGood_any _ n B xs _ Hv.out (by rw [Z0.out]; omega) hn).mono ?_
      rintro e w1 ⟨rfl, hb1⟩
      go_wp2_with fail
      refine (mvStep_any _ _).mono ?_
      rintro e w' ⟨rfl, rfl⟩
      have K1 := Lib.hid (K0.out.on hb1)
      have HB := Lib.hid (below_on HB0.out hb1)
      clear hb1
      obtain ⟨n0, n1⟩ := K1.out.c2
      have n2 := K1.out.frozen 0
      have n3 := K1.out.frozen 1
      go_wp2_with fail
      obtain ⟨m0, m1⟩ := (K1.out.set2 (.int .i64 0) (.int .i64 0)).c2
      exact bodyPost_ret (v := .tuple #[(Value.agg #[Value.int .i64 0, Value.int .i64 0]), .bool false]) (by simp [results, Try.results14, go_sem, m0, m1]) rfl
        ⟨by rw [hf.out.1, hf.out.2.1, hf.out.2.2], (HB.out.setCell (p := ⟨w.heap.size, 0, none⟩) (Nat.le_refl _) _).setCell (p := ⟨w.heap.size, 1, none⟩) (Nat.le_refl _) _⟩
    | true =>
      cases h3 : inB c 0 10000 with
      | false =>
        have hf := Lib.hid (la_no (s := s) (c := c) (show laB n xs s c = false by simp [laB, h3]))
        go_enter Try.func14, Try.ntmps14
        go_wp2_with fail
        refine (foGood_any _ n B xs _ Hv.out (by rw [Z0.out]; omega) hn).mono ?_
        rintro e w1 ⟨rfl, hb1⟩
        go_wp2_with fail
        refine (mvStep_any _ _).mono ?_
        rintro e w' ⟨rfl, rfl⟩
        go_wp2_with fail
        refine (l1In_any _ _ _ _).mono ?_
        rintro e w' ⟨rfl, rfl⟩
        have K1 := Lib.hid (K0.out.on hb1)
        have HB := Lib.hid (below_on HB0.out hb1)
        clear hb1
        obtain ⟨n0, n1⟩ := K1.out.c2
        have n2 := K1.out.frozen 0
        have n3 := K1.out.frozen 1
        go_wp2_with fail
        obtain ⟨m0, m1⟩ := (K1.out.set2 (.int .i64 0) (.int .i64 0)).c2
        exact bodyPost_ret (v := .tuple #[(Value.agg #[Value.int .i64 0, Value.int .i64 0]), .bool false]) (by simp [results, Try.results14, go_sem, m0, m1]) rfl
          ⟨by rw [hf.out.1, hf.out.2.1, hf.out.2.2], (HB.out.setCell (p := ⟨w.heap.size, 0, none⟩) (Nat.le_refl _) _).setCell (p := ⟨w.heap.size, 1, none⟩) (Nat.le_refl _) _⟩
      | true =>
        have hf := Lib.hid (la_yes (s := s) (c := c) (show laB n xs s c = true by simp [laB, h1, h2, h3]))
        have hy := wayB_yes h1
        have HW := Lib.hid h1
        have HY := Lib.hid hy
        have hs1 := inB_yes h2
        have hs2 := inB_yes h3
        obtain ⟨s1, s2⟩ := hs1
        obtain ⟨s3, s4⟩ := hs2
        have hl := lenTo_in hy.2.1 (n - 1) (by omega)
        have hm := mul_in (x := s) (y := c) (a := 24) (b := 10000) (by omega) (by omega) (by omega) (by omega)
        have hm0 : 0 ≤ s * c := Int.mul_nonneg (by omega) (by omega)
        have HR := Lib.hid (show 0 ≤ laL n xs s c ∧ laL n xs s c ≤ lenTo xs (n - 1) by unfold laL; omega)
        have HLL := Lib.hid (show laL n xs s c = min (s * c) (lenTo xs (n - 1)) from rfl)
        obtain ⟨x, ex⟩ : ∃ x, alX n xs (laL n xs s c) = x := ⟨_, rfl⟩
        obtain ⟨y, ey⟩ : ∃ y, alY n xs (laL n xs s c) = y := ⟨_, rfl⟩
        have hP := fun (W : World) (h : Rd W B 2 (.slice A n cc) n xs) (hB : B ≤ W.heap.size) => foAt_any (.slice A n cc) n B xs (laL n xs s c) W h hB HW.out HR.out.1 HR.out.2
        rw [ex, ey] at hP
        rw [ex, ey] at hf
        rw [HLL.out] at hP
        rw [Int.min_comm] at hP
        have HP := Lib.hid hP
        have e1 := IntWalk.i64_in (s * c) (by omega)
        clear hP ex ey hy hl hm
        go_enter Try.func14, Try.ntmps14
        go_wp2_with fail
        refine (foGood_any _ n B xs _ Hv.out (by rw [Z0.out]; omega) hn).mono ?_
        rintro e w1 ⟨rfl, hb1⟩
        go_wp2_with fail
        refine (mvStep_any _ _).mono ?_
        rintro e w' ⟨rfl, rfl⟩
        go_wp2_with fail
        refine (l1In_any _ _ _ _).mono ?_
        rintro e w' ⟨rfl, rfl⟩
        have K1 := Lib.hid (K0.out.on hb1)
        have HB := Lib.hid (below_on HB0.out hb1)
        have Hv1 := Lib.hid (Hv.out.below' hb1 (by rw [Z0.out]; omega))
        clear hb1
        go_wp2_with fail
        refine (foLength_any _ n B xs _ Hv1.out (Nat.le_trans hB HB.out.size) HY.out.1.1 HY.out.1.2 HY.out.2.1).mono ?_
        rintro e w2 ⟨rfl, hb2⟩
        have K2 := Lib.hid (K1.out.on hb2)
        have HB2 := Lib.hid (below_on HB.out hb2)
        have Hv2 := Lib.hid (Hv1.out.below' hb2 (Nat.le_trans hB HB.out.size))
        clear hb2
        go_wp2_with fail; refine (l1Least_any _ _ _).mono ?_; rintro e w' ⟨rfl, rfl⟩
        go_wp2_with fail
        refine (HP.out _ Hv2.out (Nat.le_trans hB HB2.out.size)).mono ?_
        rintro e w3 ⟨rfl, hb3⟩
        have K3 := Lib.hid (K2.out.on hb3)
        have HB3 := Lib.hid (below_on HB2.out hb3)
        clear hb3
        obtain ⟨n0, n1⟩ := K3.out.c2
        have n2 := K3.out.frozen 0
        have n3 := K3.out.frozen 1
        go_wp2_with fail
        obtain ⟨m0, m1⟩ := (K3.out.set2 (.int .i64 x) (.int .i64 y)).c2
        exact bodyPost_ret (v := .tuple #[(Value.agg #[Value.int .i64 x, Value.int .i64 y]), .bool true]) (by simp [results, Try.results14, go_sem, m0, m1]) rfl
          ⟨by rw [hf.out.1, hf.out.2.1, hf.out.2.2], (HB3.out.setCell (p := ⟨w.heap.size, 0, none⟩) (Nat.le_refl _) _).setCell (p := ⟨w.heap.size, 1, none⟩) (Nat.le_refl _) _⟩
end Go.Proofs.Ytciolimmfldpbaa
