/- Contracts of the tests whether a list is a way and a length is one of it; of the two SpotAlong and of the two LeaderAt. Condition: the slice can be read. -/
import Derived.Test.YtciolimmfldpbaaAlong
import Derived.Test.YtciolimmfldpbaaAlongSpec
import Derived.Test.YtciolimmfldpbaaWayLength
namespace Go.Proofs.Ytciolimmfldpbaa
open Go.RowKit

theorem slB_yes {n : Nat} {xs : List Int} {L : Int} (h : slB n xs L = true) : wayB n xs = true ∧ 0 ≤ L ∧ L ≤ lenTo xs (n - 1) := by
  simp only [slB, Bool.and_eq_true] at h
  have := inB_yes h.2
  exact ⟨h.1, this.1, this.2⟩
theorem isLength_any (v : Value) (n B : Nat) (xs : List Int) (L : Int) (w : World) (hv : Rd w B 2 v n xs) (hB : B ≤ w.heap.size) (hn : n ≤ 1099511627776) :
    Calls Try.prog 35 #[v, .int .i64 L] w fun e w' => e = .returned (.bool (slB n xs L)) ∧ Below w.heap.size w w' := by
  obtain ⟨A, c, rfl⟩ := hv.form
  have Hv := Lib.hid hv
  clear hv
  cases h1 : wayB n xs with
  | false =>
    have hf := Lib.hid (show slB n xs L = false by simp [slB, h1])
    go_enter Try.func35, Try.ntmps35
    go_wp2_with fail
    refine (IsWay_any _ n B xs _ Hv.out hB hn).mono ?_
    rintro e w1 ⟨rfl, hb1⟩
    go_wp2_with fail
    go_ret
    exact ⟨by rw [hf.out]; rfl, hb1⟩
  | true =>
    have hf := Lib.hid (show slB n xs L = inB L 0 (lenTo xs (n - 1)) by simp [slB, h1])
    have hy := wayB_yes h1
    have HY := Lib.hid hy
    clear hy
    go_enter Try.func35, Try.ntmps35
    go_wp2_with fail
    refine (IsWay_any _ n B xs _ Hv.out hB hn).mono ?_
    rintro e w1 ⟨rfl, hb1⟩
    have HB := Lib.hid hb1
    clear hb1
    go_wp2_with fail
    refine (wayLength_any _ n B xs _ (Hv.out.below' HB.out hB) (Nat.le_trans hB HB.out.size) HY.out.1.1 HY.out.1.2 HY.out.2.1).mono ?_
    rintro e w2 ⟨rfl, hb2⟩
    have HB2 := Lib.hid (below_on HB.out hb2)
    clear hb2
    go_wp2_with fail
    refine (within_any _ _ _ _).mono ?_
    rintro e w' ⟨rfl, rfl⟩
    go_wp2_with fail
    go_ret
    exact ⟨by rw [hf.out]; rfl, HB2.out⟩
theorem foHas_any (v : Value) (n B : Nat) (xs : List Int) (L : Int) (w : World) (hv : Rd w B 2 v n xs) (hB : B ≤ w.heap.size) (hn : n ≤ 1099511627776) :
    Calls Try.prog 37 #[v, .int .i64 L] w fun e w' => e = .returned (.bool (slB n xs L)) ∧ Below w.heap.size w w' := by
  obtain ⟨A, c, rfl⟩ := hv.form
  have Hv := Lib.hid hv
  clear hv
  cases h1 : wayB n xs with
  | false =>
    have hf := Lib.hid (show slB n xs L = false by simp [slB, h1])
    go_enter Try.func37, Try.ntmps37
    go_wp2_with fail
    refine (foGood_any _ n B xs _ Hv.out hB hn).mono ?_
    rintro e w1 ⟨rfl, hb1⟩
    go_wp2_with fail
    go_ret
    exact ⟨by rw [hf.out]; rfl, hb1⟩
  | true =>
    have hf := Lib.hid (show slB n xs L = inB L 0 (lenTo xs (n - 1)) by simp [slB, h1])
    have hy := wayB_yes h1
    have HY := Lib.hid hy
    clear hy
    go_enter Try.func37, Try.ntmps37
    go_wp2_with fail
    refine (foGood_any _ n B xs _ Hv.out hB hn).mono ?_
    rintro e w1 ⟨rfl, hb1⟩
    have HB := Lib.hid hb1
    clear hb1
    go_wp2_with fail
    refine (foLength_any _ n B xs _ (Hv.out.below' HB.out hB) (Nat.le_trans hB HB.out.size) HY.out.1.1 HY.out.1.2 HY.out.2.1).mono ?_
    rintro e w2 ⟨rfl, hb2⟩
    have HB2 := Lib.hid (below_on HB.out hb2)
    clear hb2
    go_wp2_with fail
    refine (l1In_any _ _ _ _).mono ?_
    rintro e w' ⟨rfl, rfl⟩
    go_wp2_with fail
    go_ret
    exact ⟨by rw [hf.out]; rfl, HB2.out⟩

def saX (n : Nat) (xs : List Int) (L : Int) : Int := if slB n xs L = true then alX n xs L else 0
def saY (n : Nat) (xs : List Int) (L : Int) : Int := if slB n xs L = true then alY n xs L else 0
theorem sa_no {n : Nat} {xs : List Int} {L : Int} (h : slB n xs L = false) : slB n xs L = false ∧ saX n xs L = 0 ∧ saY n xs L = 0 := by simp [saX, saY, h]
theorem sa_yes {n : Nat} {xs : List Int} {L : Int} (h : slB n xs L = true) : slB n xs L = true ∧ saX n xs L = alX n xs L ∧ saY n xs L = alY n xs L := by simp [saX, saY, h]
theorem below_in {a w1 w2 : World} (o : Obj) (h : Below a.heap.size (a.alloc o) w1) (h2 : Below w1.heap.size w1 w2) : Below a.heap.size a w2 := (below_new (Below.refl _ _) o).trans (h.trans (h2.mono (Nat.le_trans (by simp) h.size)))

set_option maxHeartbeats 1000000 in
theorem SpotAlong_any (v : Value) (n B : Nat) (xs : List Int) (L : Int) (w : World) (hv : Rd w B 2 v n xs) (hB : B ≤ w.heap.size) (hn : n ≤ 1099511627776) :
    Calls Try.prog 8 #[v, .int .i64 L] w fun e w' => e = .returned (.tuple #[(Value.agg #[Value.int .i64 (saX n xs L), Value.int .i64 (saY n xs L)]), .bool (slB n xs L)]) ∧ Below w.heap.size w w' := by
  obtain ⟨A, c, rfl⟩ := hv.form
  have Hv := Lib.hid (hv.alloc hB (.cells #[.int .i64 0, .int .i64 0] 29))
  have k0 := Blk.new w 29 #[.int .i64 0, .int .i64 0]
  have z0 : (w.alloc (.cells #[.int .i64 0, .int .i64 0] 29)).heap.size = w.heap.size + 1 := by simp
  have HB0 := Lib.hid (below_new (Below.refl w.heap.size w) (.cells #[.int .i64 0, .int .i64 0] 29))
  have K0 := Lib.hid k0
  have Z0 := Lib.hid z0
  clear hv k0 z0
  cases h1 : slB n xs L with
  | false =>
    have hf := Lib.hid (sa_no h1)
    go_enter Try.func8, Try.ntmps8
    go_wp2_with fail
    refine (isLength_any _ n B xs _ _ Hv.out (by rw [Z0.out]; omega) hn).mono ?_
    rintro e w1 ⟨rfl, hb1⟩
    have K1 := Lib.hid (K0.out.on hb1)
    have HB := Lib.hid (below_on HB0.out hb1)
    clear hb1
    obtain ⟨n0, n1⟩ := K1.out.c2
    have n2 := K1.out.frozen 0
    have n3 := K1.out.frozen 1
    go_wp2_with fail
    obtain ⟨m0, m1⟩ := (K1.out.set2 (.int .i64 0) (.int .i64 0)).c2
    exact bodyPost_ret (v := .tuple #[(Value.agg #[Value.int .i64 0, Value.int .i64 0]), .bool false]) (by simp [results, Try.results8, go_sem, m0, m1]) rfl
      ⟨by rw [hf.out.2.1, hf.out.2.2], (HB.out.setCell (p := ⟨w.heap.size, 0, none⟩) (Nat.le_refl _) _).setCell (p := ⟨w.heap.size, 1, none⟩) (Nat.le_refl _) _⟩
  | true =>
    have hf := Lib.hid (sa_yes h1)
    have hy := Lib.hid (slB_yes h1)
    obtain ⟨x, ex⟩ : ∃ x, alX n xs L = x := ⟨_, rfl⟩
    obtain ⟨y, ey⟩ : ∃ y, alY n xs L = y := ⟨_, rfl⟩
    have hP := fun (W : World) (h : Rd W B 2 (.slice A n c) n xs) (hB : B ≤ W.heap.size) => spotAlong_any (.slice A n c) n B xs L W h hB hy.out.1 hy.out.2.1 hy.out.2.2
    rw [ex, ey] at hP
    rw [ex, ey] at hf
    have HP := Lib.hid hP
    clear hP ex ey
    go_enter Try.func8, Try.ntmps8
    go_wp2_with fail
    refine (isLength_any _ n B xs _ _ Hv.out (by rw [Z0.out]; omega) hn).mono ?_
    rintro e w1 ⟨rfl, hb1⟩
    have K1 := K0.out.on hb1
    have HB := Lib.hid (below_on HB0.out hb1)
    have Hv1 := Lib.hid (Hv.out.below' hb1 (by rw [Z0.out]; omega))
    have K1 := Lib.hid K1
    clear hb1
    go_wp2_with fail
    refine (HP.out _ Hv1.out (Nat.le_trans hB HB.out.size)).mono ?_
    rintro e w2 ⟨rfl, hb2⟩
    have K2 := Lib.hid (K1.out.on hb2)
    have HB2 := Lib.hid (below_on HB.out hb2)
    clear hb2
    obtain ⟨n0, n1⟩ := K2.out.c2
    have n2 := K2.out.frozen 0
    have n3 := K2.out.frozen 1
    go_wp2_with fail
    obtain ⟨m0, m1⟩ := (K2.out.set2 (.int .i64 x) (.int .i64 y)).c2
    exact bodyPost_ret (v := .tuple #[(Value.agg #[Value.int .i64 x, Value.int .i64 y]), .bool true]) (by simp [results, Try.results8, go_sem, m0, m1]) rfl
      ⟨by rw [hf.out.2.1, hf.out.2.2], (HB2.out.setCell (p := ⟨w.heap.size, 0, none⟩) (Nat.le_refl _) _).setCell (p := ⟨w.heap.size, 1, none⟩) (Nat.le_refl _) _⟩
set_option maxHeartbeats 1000000 in
theorem specSpotAlong_any (v : Value) (n B : Nat) (xs : List Int) (L : Int) (w : World) (hv : Rd w B 2 v n xs) (hB : B ≤ w.heap.size) (hn : n ≤ 1099511627776) :
    Calls Try.prog 9 #[v, .int .i64 L] w fun e w' => e = .returned (.tuple #[(Value.agg #[Value.int .i64 (saX n xs L), Value.int .i64 (saY n xs L)]), .bool (slB n xs L)]) ∧ Below w.heap.size w w' := by
  obtain ⟨A, c, rfl⟩ := hv.form
  have Hv := Lib.hid (hv.alloc hB (.cells #[.int .i64 0, .int .i64 0] 29))
  have k0 := Blk.new w 29 #[.int .i64 0, .int .i64 0]
  have z0 : (w.alloc (.cells #[.int .i64 0, .int .i64 0] 29)).heap.size = w.heap.size + 1 := by simp
  have HB0 := Lib.hid (below_new (Below.refl w.heap.size w) (.cells #[.int .i64 0, .int .i64 0] 29))
  have K0 := Lib.hid k0
  have Z0 := Lib.hid z0
  clear hv k0 z0
  cases h1 : slB n xs L with
  | false =>
    have hf := Lib.hid (sa_no h1)
    go_enter Try.func9, Try.ntmps9
    go_wp2_with fail
    refine (foHas_any _ n B xs _ _ Hv.out (by rw [Z0.out]; omega) hn).mono ?_
    rintro e w1 ⟨rfl, hb1⟩
    have K1 := Lib.hid (K0.out.on hb1)
    have HB := Lib.hid (below_on HB0.out hb1)
    clear hb1
    obtain ⟨n0, n1⟩ := K1.out.c2
    have n2 := K1.out.frozen 0
    have n3 := K1.out.frozen 1
    go_wp2_with fail
    obtain ⟨m0, m1⟩ := (K1.out.set2 (.int .i64 0) (.int .i64 0)).c2
    exact bodyPost_ret (v := .tuple #[(Value.agg #[Value.int .i64 0, Value.int .i64 0]), .bool false]) (by simp [results, Try.results9, go_sem, m0, m1]) rfl
      ⟨by rw [hf.out.2.1, hf.out.2.2], (HB.out.setCell (p := ⟨w.heap.size, 0, none⟩) (Nat.le_refl _) _).setCell (p := ⟨w.heap.size, 1, none⟩) (Nat.le_refl _) _⟩
  | true =>
    have hf := Lib.hid (sa_yes h1)
    have hy := Lib.hid (slB_yes h1)
    obtain ⟨x, ex⟩ : ∃ x, alX n xs L = x := ⟨_, rfl⟩
    obtain ⟨y, ey⟩ : ∃ y, alY n xs L = y := ⟨_, rfl⟩
    have hP := fun (W : World) (h : Rd W B 2 (.slice A n c) n xs) (hB : B ≤ W.heap.size) => foAt_any (.slice A n c) n B xs L W h hB hy.out.1 hy.out.2.1 hy.out.2.2
    rw [ex, ey] at hP
    rw [ex, ey] at hf
    have HP := Lib.hid hP
    clear hP ex ey
    go_enter Try.func9, Try.ntmps9
    go_wp2_with fail
    refine (foHas_any _ n B xs _ _ Hv.out (by rw [Z0.out]; omega) hn).mono ?_
    rintro e w1 ⟨rfl, hb1⟩
    have K1 := K0.out.on hb1
    have HB := Lib.hid (below_on HB0.out hb1)
    have Hv1 := Lib.hid (Hv.out.below' hb1 (by rw [Z0.out]; omega))
    have K1 := Lib.hid K1
    clear hb1
    go_wp2_with fail
    refine (HP.out _ Hv1.out (Nat.le_trans hB HB.out.size)).mono ?_
    rintro e w2 ⟨rfl, hb2⟩
    have K2 := Lib.hid (K1.out.on hb2)
    have HB2 := Lib.hid (below_on HB.out hb2)
    clear hb2
    obtain ⟨n0, n1⟩ := K2.out.c2
    have n2 := K2.out.frozen 0
    have n3 := K2.out.frozen 1
    go_wp2_with fail
    obtain ⟨m0, m1⟩ := (K2.out.set2 (.int .i64 x) (.int .i64 y)).c2
    exact bodyPost_ret (v := .tuple #[(Value.agg #[Value.int .i64 x, Value.int .i64 y]), .bool true]) (by simp [results, Try.results9, go_sem, m0, m1]) rfl
      ⟨by rw [hf.out.2.1, hf.out.2.2], (HB2.out.setCell (p := ⟨w.heap.size, 0, none⟩) (Nat.le_refl _) _).setCell (p := ⟨w.heap.size, 1, none⟩) (Nat.le_refl _) _⟩
end Go.Proofs.Ytciolimmfldpbaa
