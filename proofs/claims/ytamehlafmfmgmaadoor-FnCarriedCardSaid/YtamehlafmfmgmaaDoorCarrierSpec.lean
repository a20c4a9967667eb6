/- Contracts of the reference's CarrierAt and LoadAt. Condition: the slice can be read, and its length is at most its capacity. -/
import Derived.Test.YtamehlafmfmgmaaDoorCarrier
namespace Go.Proofs.YtamehlafmfmgmaaDoor
open Go.RowKit

theorem idxV_yes {n : Nat} {xs : List Int} {a b c : Int} (h : idxAt n xs a b c < n) : idxV n xs a b c = (idxAt n xs a b c : Int) := by simp [idxV, h]
theorem idxV_no {n : Nat} {xs : List Int} {a b c : Int} (h : ¬ idxAt n xs a b c < n) : idxV n xs a b c = -1 := by simp [idxV, h]
/-! $1 the function, $2 the pair of arguments of caAt, $3 the reading that is told, $4 its letter, $5 the laws' name, $6 the bound, $7 the test of the argument -/
set_option maxHeartbeats 2000000 in
theorem specCarrierAt_any (v : Value) (n B : Nat) (xs : List Int) (q count : Int) (w : World) (hcp : Cap v) (hv : Rd w B 4 v n xs) (hB : B ≤ w.heap.size) (hn : n ≤ 1099511627776) :
    Calls Tryd.prog 15 #[v, .int .i64 q, .int .i64 count] w fun e w' => e = .returned (.tuple #[.int .i64 (crV n xs q count), .bool (crB n xs q count)]) ∧ Below w.heap.size w w' := by
  obtain ⟨A, c, rfl⟩ := hv.form4
  have Hv := Lib.hid hv
  have Hc := Lib.hid hcp
  clear hv hcp
  cases h1 : gcB n xs with
  | false =>
    have hf := Lib.hid (cr_no (q := q) (count := count) (show crB n xs q count = false by simp [crB, h1]))
    go_enter Tryd.func15, Tryd.ntmps15
    go_wp2_with fail
    refine (caGood_any _ n B xs _ Hc.out Hv.out hB hn).mono ?_
    rintro e w1 ⟨rfl, hb1⟩
    have HB1 := Lib.hid hb1
    clear hb1
    go_wp2_with fail
    go_ret2
    exact ⟨by rw [hf.out.1, hf.out.2]; rfl, HB1.out⟩
  | true =>
    cases h2 : inB q 1 9 with
    | false =>
      have hf := Lib.hid (cr_no (q := q) (count := count) (show crB n xs q count = false by simp [crB, h2]))
      go_enter Tryd.func15, Tryd.ntmps15
      go_wp2_with fail
      refine (caGood_any _ n B xs _ Hc.out Hv.out hB hn).mono ?_
      rintro e w1 ⟨rfl, hb1⟩
      have HB1 := Lib.hid hb1
      clear hb1
      go_wp2_with fail
      refine (caLoad_any _ _).mono ?_
      rintro e w' ⟨rfl, rfl⟩
      go_wp2_with fail
      go_ret2
      exact ⟨by rw [hf.out.1, hf.out.2]; rfl, HB1.out⟩
    | true =>
      cases h3 : inB count 0 999 with
      | false =>
        have hf := Lib.hid (cr_no (q := q) (count := count) (show crB n xs q count = false by simp [crB, h3]))
        go_enter Tryd.func15, Tryd.ntmps15
        go_wp2_with fail
        refine (caGood_any _ n B xs _ Hc.out Hv.out hB hn).mono ?_
        rintro e w1 ⟨rfl, hb1⟩
        have HB1 := Lib.hid hb1
        clear hb1
        go_wp2_with fail
        refine (caLoad_any _ _).mono ?_
        rintro e w' ⟨rfl, rfl⟩
        go_wp2_with fail
        refine (caCount_any _ _).mono ?_
        rintro e w' ⟨rfl, rfl⟩
        go_wp2_with fail
        go_ret2
        exact ⟨by rw [hf.out.1, hf.out.2]; rfl, HB1.out⟩
      | true =>
        have hg := gc_yes h1
        have hP := fun W (h : Rd W B 4 (.slice A n c) n xs) (hB : B ≤ W.heap.size) => caAt_any _ n B xs q 0 count W h hB hg
        have h40 := hg.len
        by_cases hi : idxAt n xs q 0 count < n
        · have hf := Lib.hid (cr_yes (q := q) (count := count) (show crB n xs q count = true by simp [crB, h1, h2, h3, hi]))
          rw [idxV_yes hi] at hP
          obtain ⟨i, ei⟩ : ∃ i, idxAt n xs q 0 count = i := ⟨_, rfl⟩
          rw [ei] at hP hi hf
          have HP := Lib.hid hP
          obtain ⟨b, off, rfl, hbB, hc⟩ := Hv.out.carry (by omega)
          have hci := hc i hi
          have i0 : (0 : Int) ≤ (i : Int) := by omega
          have i1 : (i : Int) < (n : Int) := by omega
          obtain ⟨x, ex⟩ : ∃ a, cP xs i = a := ⟨_, rfl⟩
          rw [ex] at hci hf
          clear hP hg ei ex hc
          go_enter Tryd.func15, Tryd.ntmps15
          go_wp2_with fail
          refine (caGood_any _ n B xs _ Hc.out Hv.out hB hn).mono ?_
          rintro e w1 ⟨rfl, hb1⟩
          have HB1 := Lib.hid hb1
          clear hb1
          go_wp2_with fail
          refine (caLoad_any _ _).mono ?_
          rintro e w' ⟨rfl, rfl⟩
          go_wp2_with fail
          refine (caCount_any _ _).mono ?_
          rintro e w' ⟨rfl, rfl⟩
          go_wp2_with fail
          refine (HP.out _ (Hv.out.below' HB1.out hB) (Nat.le_trans hB HB1.out.size)).mono ?_
          rintro e w2 ⟨rfl, hb2⟩
          have HB2 := Lib.hid (below_on HB1.out hb2)
          clear hb2
          go_wp2_with fail
          refine (HP.out _ (Hv.out.below' HB2.out hB) (Nat.le_trans hB HB2.out.size)).mono ?_
          rintro e w3 ⟨rfl, hb3⟩
          have HB3 := Lib.hid (below_on HB2.out hb3)
          clear hb3
          have c0 := (HB3.out.cell (p := ⟨b, off + i * 4, none⟩) (Nat.lt_of_lt_of_le hbB hB)).trans hci.1
          go_wp2_with fail
          go_ret2
          exact ⟨by rw [hf.out.1, hf.out.2]; rfl, HB3.out⟩
        · have hf := Lib.hid (cr_no (q := q) (count := count) (show crB n xs q count = false by simp [crB, hi]))
          rw [idxV_no hi] at hP
          have HP := Lib.hid hP
          clear hP hg
          go_enter Tryd.func15, Tryd.ntmps15
          go_wp2_with fail
          refine (caGood_any _ n B xs _ Hc.out Hv.out hB hn).mono ?_
          rintro e w1 ⟨rfl, hb1⟩
          have HB1 := Lib.hid hb1
          clear hb1
          go_wp2_with fail
          refine (caLoad_any _ _).mono ?_
          rintro e w' ⟨rfl, rfl⟩
          go_wp2_with fail
          refine (caCount_any _ _).mono ?_
          rintro e w' ⟨rfl, rfl⟩
          go_wp2_with fail
          refine (HP.out _ (Hv.out.below' HB1.out hB) (Nat.le_trans hB HB1.out.size)).mono ?_
          rintro e w2 ⟨rfl, hb2⟩
          replace HB1 := Lib.hid (below_on HB1.out hb2)
          clear hb2
          go_wp2_with fail
          go_ret2
          exact ⟨by rw [hf.out.1, hf.out.2]; rfl, HB1.out⟩
set_option maxHeartbeats 2000000 in
theorem specLoadAt_any (v : Value) (n B : Nat) (xs : List Int) (q count : Int) (w : World) (hcp : Cap v) (hv : Rd w B 4 v n xs) (hB : B ≤ w.heap.size) (hn : n ≤ 1099511627776) :
    Calls Tryd.prog 18 #[v, .int .i64 q, .int .i64 count] w fun e w' => e = .returned (.tuple #[.int .i64 (ldV n xs q count), .bool (ldB n xs q count)]) ∧ Below w.heap.size w w' := by
  obtain ⟨A, c, rfl⟩ := hv.form4
  have Hv := Lib.hid hv
  have Hc := Lib.hid hcp
  clear hv hcp
  cases h1 : gcB n xs with
  | false =>
    have hf := Lib.hid (ld_no (q := q) (count := count) (show ldB n xs q count = false by simp [ldB, h1]))
    go_enter Tryd.func18, Tryd.ntmps18
    go_wp2_with fail
    refine (caGood_any _ n B xs _ Hc.out Hv.out hB hn).mono ?_
    rintro e w1 ⟨rfl, hb1⟩
    have HB1 := Lib.hid hb1
    clear hb1
    go_wp2_with fail
    go_ret2
    exact ⟨by rw [hf.out.1, hf.out.2]; rfl, HB1.out⟩
  | true =>
    cases h2 : inB q 1 12 with
    | false =>
      have hf := Lib.hid (ld_no (q := q) (count := count) (show ldB n xs q count = false by simp [ldB, h2]))
      go_enter Tryd.func18, Tryd.ntmps18
      go_wp2_with fail
      refine (caGood_any _ n B xs _ Hc.out Hv.out hB hn).mono ?_
      rintro e w1 ⟨rfl, hb1⟩
      have HB1 := Lib.hid hb1
      clear hb1
      go_wp2_with fail
      refine (caPerformer_any _ _).mono ?_
      rintro e w' ⟨rfl, rfl⟩
      go_wp2_with fail
      go_ret2
      exact ⟨by rw [hf.out.1, hf.out.2]; rfl, HB1.out⟩
    | true =>
      cases h3 : inB count 0 999 with
      | false =>
        have hf := Lib.hid (ld_no (q := q) (count := count) (show ldB n xs q count = false by simp [ldB, h3]))
        go_enter Tryd.func18, Tryd.ntmps18
        go_wp2_with fail
        refine (caGood_any _ n B xs _ Hc.out Hv.out hB hn).mono ?_
        rintro e w1 ⟨rfl, hb1⟩
        have HB1 := Lib.hid hb1
        clear hb1
        go_wp2_with fail
        refine (caPerformer_any _ _).mono ?_
        rintro e w' ⟨rfl, rfl⟩
        go_wp2_with fail
        refine (caCount_any _ _).mono ?_
        rintro e w' ⟨rfl, rfl⟩
        go_wp2_with fail
        go_ret2
        exact ⟨by rw [hf.out.1, hf.out.2]; rfl, HB1.out⟩
      | true =>
        have hg := gc_yes h1
        have hP := fun W (h : Rd W B 4 (.slice A n c) n xs) (hB : B ≤ W.heap.size) => caAt_any _ n B xs 0 q count W h hB hg
        have h40 := hg.len
        by_cases hi : idxAt n xs 0 q count < n
        · have hf := Lib.hid (ld_yes (q := q) (count := count) (show ldB n xs q count = true by simp [ldB, h1, h2, h3, hi]))
          rw [idxV_yes hi] at hP
          obtain ⟨i, ei⟩ : ∃ i, idxAt n xs 0 q count = i := ⟨_, rfl⟩
          rw [ei] at hP hi hf
          have HP := Lib.hid hP
          obtain ⟨b, off, rfl, hbB, hc⟩ := Hv.out.carry (by omega)
          have hci := hc i hi
          have i0 : (0 : Int) ≤ (i : Int) := by omega
          have i1 : (i : Int) < (n : Int) := by omega
          obtain ⟨x, ex⟩ : ∃ a, cL xs i = a := ⟨_, rfl⟩
          rw [ex] at hci hf
          clear hP hg ei ex hc
          go_enter Tryd.func18, Tryd.ntmps18
          go_wp2_with fail
          refine (caGood_any _ n B xs _ Hc.out Hv.out hB hn).mono ?_
          rintro e w1 ⟨rfl, hb1⟩
          have HB1 := Lib.hid hb1
          clear hb1
          go_wp2_with fail
          refine (caPerformer_any _ _).mono ?_
          rintro e w' ⟨rfl, rfl⟩
          go_wp2_with fail
          refine (caCount_any _ _).mono ?_
          rintro e w' ⟨rfl, rfl⟩
          go_wp2_with fail
          refine (HP.out _ (Hv.out.below' HB1.out hB) (Nat.le_trans hB HB1.out.size)).mono ?_
          rintro e w2 ⟨rfl, hb2⟩
          have HB2 := Lib.hid (below_on HB1.out hb2)
          clear hb2
          go_wp2_with fail
          refine (HP.out _ (Hv.out.below' HB2.out hB) (Nat.le_trans hB HB2.out.size)).mono ?_
          rintro e w3 ⟨rfl, hb3⟩
          have HB3 := Lib.hid (below_on HB2.out hb3)
          clear hb3
          have c0 := (HB3.out.cell (p := ⟨b, off + i * 4 + 1, none⟩) (Nat.lt_of_lt_of_le hbB hB)).trans hci.2.1
          go_wp2_with fail
          go_ret2
          exact ⟨by rw [hf.out.1, hf.out.2]; rfl, HB3.out⟩
        · have hf := Lib.hid (ld_no (q := q) (count := count) (show ldB n xs q count = false by simp [ldB, hi]))
          rw [idxV_no hi] at hP
          have HP := Lib.hid hP
          clear hP hg
          go_enter Tryd.func18, Tryd.ntmps18
          go_wp2_with fail
          refine (caGood_any _ n B xs _ Hc.out Hv.out hB hn).mono ?_
          rintro e w1 ⟨rfl, hb1⟩
          have HB1 := Lib.hid hb1
          clear hb1
          go_wp2_with fail
          refine (caPerformer_any _ _).mono ?_
          rintro e w' ⟨rfl, rfl⟩
          go_wp2_with fail
          refine (caCount_any _ _).mono ?_
          rintro e w' ⟨rfl, rfl⟩
          go_wp2_with fail
          refine (HP.out _ (Hv.out.below' HB1.out hB) (Nat.le_trans hB HB1.out.size)).mono ?_
          rintro e w2 ⟨rfl, hb2⟩
          replace HB1 := Lib.hid (below_on HB1.out hb2)
          clear hb2
          go_wp2_with fail
          go_ret2
          exact ⟨by rw [hf.out.1, hf.out.2]; rfl, HB1.out⟩
end Go.Proofs.YtamehlafmfmgmaaDoor
