/- Contracts of the two WayLength and of the two CountsToWalk. Condition: the slice can be read. -/
import Derived.Test.YtciolimmfldpbaaLength
import Derived.Test.YtciolimmfldpbaaStep
namespace Go.Proofs.Ytciolimmfldpbaa
open Go.RowKit

def wlV (n : Nat) (xs : List Int) : Int := if wayB n xs = true then lenTo xs (n - 1) else 0
def cwB (n : Nat) (xs : List Int) (s : Int) : Bool := wayB n xs && inB s 1 24
def cwV (n : Nat) (xs : List Int) (s : Int) : Int := if cwB n xs s = true then (lenTo xs (n - 1) + s - 1) / s else 0
theorem cw_no {n : Nat} {xs : List Int} {s : Int} (h : cwB n xs s = false) : cwB n xs s = false ∧ cwV n xs s = 0 := by simp [cwV, h]
theorem cw_yes {n : Nat} {xs : List Int} {s : Int} (h : cwB n xs s = true) : cwB n xs s = true ∧ cwV n xs s = (lenTo xs (n - 1) + s - 1) / s := by simp [cwV, h]

theorem WayLength_any (v : Value) (n B : Nat) (xs : List Int) (w : World) (hv : Rd w B 2 v n xs) (hB : B ≤ w.heap.size) (hn : n ≤ 1099511627776) :
    Calls Try.prog 10 #[v] w fun e w' => e = .returned (.tuple #[.int .i64 (wlV n xs), .bool (wayB n xs)]) ∧ Below w.heap.size w w' := by
  obtain ⟨A, c, rfl⟩ := hv.form
  have Hv := Lib.hid hv
  clear hv
  cases h1 : wayB n xs with
  | false =>
    have hf := Lib.hid (show wlV n xs = 0 by simp [wlV, h1])
    go_enter Try.func10, Try.ntmps10
    go_wp2_with fail
    refine (IsWay_any _ n B xs _ Hv.out hB hn).mono ?_
    rintro e w1 ⟨rfl, hb1⟩
    go_wp2_with fail
    go_ret2
    exact ⟨by rw [hf.out]; rfl, hb1⟩
  | true =>
    have hf := Lib.hid (show wlV n xs = lenTo xs (n - 1) by simp [wlV, h1])
    have hy := wayB_yes h1
    have HY := Lib.hid hy
    clear hy
    go_enter Try.func10, Try.ntmps10
    go_wp2_with fail
    refine (IsWay_any _ n B xs _ Hv.out hB hn).mono ?_
    rintro e w1 ⟨rfl, hb1⟩
    have HB := Lib.hid hb1
    clear hb1
    go_wp2_with fail
    refine (wayLength_any _ n B xs _ (Hv.out.below' HB.out hB) (Nat.le_trans hB HB.out.size) HY.out.1.1 HY.out.1.2 HY.out.2.1).mono ?_
    rintro e w2 ⟨rfl, hb2⟩
    go_wp2_with fail
    go_ret2
    exact ⟨by rw [hf.out]; rfl, below_on HB.out hb2⟩
theorem specWayLength_any (v : Value) (n B : Nat) (xs : List Int) (w : World) (hv : Rd w B 2 v n xs) (hB : B ≤ w.heap.size) (hn : n ≤ 1099511627776) :
    Calls Try.prog 11 #[v] w fun e w' => e = .returned (.tuple #[.int .i64 (wlV n xs), .bool (wayB n xs)]) ∧ Below w.heap.size w w' := by
  obtain ⟨A, c, rfl⟩ := hv.form
  have Hv := Lib.hid hv
  clear hv
  cases h1 : wayB n xs with
  | false =>
    have hf := Lib.hid (show wlV n xs = 0 by simp [wlV, h1])
    go_enter Try.func11, Try.ntmps11
    go_wp2_with fail
    refine (foGood_any _ n B xs _ Hv.out hB hn).mono ?_
    rintro e w1 ⟨rfl, hb1⟩
    go_wp2_with fail
    go_ret2
    exact ⟨by rw [hf.out]; rfl, hb1⟩
  | true =>
    have hf := Lib.hid (show wlV n xs = lenTo xs (n - 1) by simp [wlV, h1])
    have hy := wayB_yes h1
    have HY := Lib.hid hy
    clear hy
    go_enter Try.func11, Try.ntmps11
    go_wp2_with fail
    refine (foGood_any _ n B xs _ Hv.out hB hn).mono ?_
    rintro e w1 ⟨rfl, hb1⟩
    have HB := Lib.hid hb1
    clear hb1
    go_wp2_with fail
    refine (foLength_any _ n B xs _ (Hv.out.below' HB.out hB) (Nat.le_trans hB HB.out.size) HY.out.1.1 HY.out.1.2 HY.out.2.1).mono ?_
    rintro e w2 ⟨rfl, hb2⟩
    go_wp2_with fail
    go_ret2
    exact ⟨by rw [hf.out]; rfl, below_on HB.out hb2⟩

theorem CountsToWalk_any (v : Value) (n B : Nat) (xs : List Int) (s : Int) (w : World) (hv : Rd w B 2 v n xs) (hB : B ≤ w.heap.size) (hn : n ≤ 1099511627776) :
    Calls Try.prog 15 #[v, .int .i64 s] w fun e w' => e = .returned (.tuple #[.int .i64 (cwV n xs s), .bool (cwB n xs s)]) ∧ Below w.heap.size w w' := by
  obtain ⟨A, c, rfl⟩ := hv.form
  have Hv := Lib.hid hv
  clear hv
  cases h1 : wayB n xs with
  | false =>
    have hf := Lib.hid (cw_no (s := s) (show cwB n xs s = false by simp [cwB, h1]))
    go_enter Try.func15, Try.ntmps15
    go_wp2_with fail
    refine (IsWay_any _ n B xs _ Hv.out hB hn).mono ?_
    rintro e w1 ⟨rfl, hb1⟩
    go_wp2_with fail
    go_ret2
    exact ⟨by rw [hf.out.1, hf.out.2]; rfl, hb1⟩
  | true =>
    cases h2 : inB s 1 24 with
    | false =>
      have hf := Lib.hid (cw_no (s := s) (show cwB n xs s = false by simp [cwB, h2]))
      go_enter Try.func15, Try.ntmps15
      go_wp2_with fail
      refine (IsWay_any _ n B xs _ Hv.out hB hn).mono ?_
      rintro e w1 ⟨rfl, hb1⟩
      have HB := Lib.hid hb1
      clear hb1
      go_wp2_with fail
      refine (within_any _ _ _ _).mono ?_
      rintro e w' ⟨rfl, rfl⟩
      go_wp2_with fail
      go_ret2
      exact ⟨by rw [hf.out.1, hf.out.2]; rfl, HB.out⟩
    | true =>
      have hf := Lib.hid (cw_yes (s := s) (show cwB n xs s = true by simp [cwB, h1, h2]))
      have hy := wayB_yes h1
      have hs := inB_yes h2
      have hl := lenTo_in hy.2.1 (n - 1) (by omega)
      have hl2 : lenTo xs (n - 1) ≤ 30000 := by omega
      have hl1 := hl.1
      have HY := Lib.hid hy
      obtain ⟨s1, s2⟩ := hs
      clear hy hl
      go_enter Try.func15, Try.ntmps15
      go_wp2_with fail
      refine (IsWay_any _ n B xs _ Hv.out hB hn).mono ?_
      rintro e w1 ⟨rfl, hb1⟩
      have HB := Lib.hid hb1
      clear hb1
      go_wp2_with fail
      refine (within_any _ _ _ _).mono ?_
      rintro e w' ⟨rfl, rfl⟩
      go_wp2_with fail
      refine (wayLength_any _ n B xs _ (Hv.out.below' HB.out hB) (Nat.le_trans hB HB.out.size) HY.out.1.1 HY.out.1.2 HY.out.2.1).mono ?_
      rintro e w2 ⟨rfl, hb2⟩
      go_wp2_with fail
      go_ret2
      exact ⟨by rw [hf.out.1, hf.out.2]; rfl, below_on HB.out hb2⟩
theorem specCountsToWalk_any (v : Value) (n B : Nat) (xs : List Int) (s : Int) (w : World) (hv : Rd w B 2 v n xs) (hB : B ≤ w.heap.size) (hn : n ≤ 1099511627776) :
    Calls Try.prog 16 #[v, .int .i64 s] w fun e w' => e = .returned (.tuple #[.int .i64 (cwV n xs s), .bool (cwB n xs s)]) ∧ Below w.heap.size w w' := by
  obtain ⟨A, c, rfl⟩ := hv.form
  have Hv := Lib.hid hv
  clear hv
  cases h1 : wayB n xs with
  | false =>
    have hf := Lib.hid (cw_no (s := s) (show cwB n xs s = false by simp [cwB, h1]))
    go_enter Try.func16, Try.ntmps16
    go_wp2_with fail
    refine (foGood_any _ n B xs _ Hv.out hB hn).mono ?_
    rintro e w1 ⟨rfl, hb1⟩
    go_wp2_with fail
    go_ret2
    exact ⟨by rw [hf.out.1, hf.out.2]; rfl, hb1⟩
  | true =>
    cases h2 : inB s 1 24 with
    | false =>
      have hf := Lib.hid (cw_no (s := s) (show cwB n xs s = false by simp [cwB, h2]))
      go_enter Try.func16, Try.ntmps16
      go_wp2_with fail
      refine (foGood_any _ n B xs _ Hv.out hB hn).mono ?_
      rintro e w1 ⟨rfl, hb1⟩
      have HB := Lib.hid hb1
      clear hb1
      go_wp2_with fail
      refine (mvStep_any _ _).mono ?_
      rintro e w' ⟨rfl, rfl⟩
      go_wp2_with fail
      go_ret2
      exact ⟨by rw [hf.out.1, hf.out.2]; rfl, HB.out⟩
    | true =>
      have hf := Lib.hid (cw_yes (s := s) (show cwB n xs s = true by simp [cwB, h1, h2]))
      have hy := wayB_yes h1
      have hs := inB_yes h2
      have hl := lenTo_in hy.2.1 (n - 1) (by omega)
      have hl2 : lenTo xs (n - 1) ≤ 30000 := by omega
      have hl1 := hl.1
      have HY := Lib.hid hy
      obtain ⟨s1, s2⟩ := hs
      clear hy hl
      go_enter Try.func16, Try.ntmps16
      go_wp2_with fail
      refine (foGood_any _ n B xs _ Hv.out hB hn).mono ?_
      rintro e w1 ⟨rfl, hb1⟩
      have HB := Lib.hid hb1
      clear hb1
      go_wp2_with fail
      refine (mvStep_any _ _).mono ?_
      rintro e w' ⟨rfl, rfl⟩
      go_wp2_with fail
      refine (foLength_any _ n B xs _ (Hv.out.below' HB.out hB) (Nat.le_trans hB HB.out.size) HY.out.1.1 HY.out.1.2 HY.out.2.1).mono ?_
      rintro e w2 ⟨rfl, hb2⟩
      go_wp2_with fail
      go_ret2
      exact ⟨by rw [hf.out.1, hf.out.2]; rfl, below_on HB.out hb2⟩
end Go.Proofs.Ytciolimmfldpbaa
