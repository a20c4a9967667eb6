/- Contracts of the two CornersPassed. Condition: the slice can be read. -/
import Derived.Test.YtciolimmfldpbaaHas
namespace Go.Proofs.Ytciolimmfldpbaa
open Go.RowKit

def cpV (n : Nat) (xs : List Int) (L : Int) : Int := if slB n xs L = true then cpTo xs L (n - 1) else 0
theorem cp_no {n : Nat} {xs : List Int} {L : Int} (h : slB n xs L = false) : cpV n xs L = 0 := by simp [cpV, h]
theorem cp_yes {n : Nat} {xs : List Int} {L : Int} (h : slB n xs L = true) : cpV n xs L = cpTo xs L (n - 1) := by simp [cpV, h]
/-- The length of a slice is at most its capacity. -/
def Cap (v : Value) : Prop := ∀ A n c, v = .slice A n c → n ≤ c
theorem Own.cap {w : World} {lo hi sz n : Nat} {e : TypeId} {v : Value} {xs : List Int} (h : Own w lo hi e sz v n xs) : Cap v := by
  intro A m c hv
  rcases h.1.2 with ⟨rfl, _⟩ | ⟨g, cap, cur, rfl, _, _, hnc, _⟩
  · simp only [Value.slice.injEq] at hv; omega
  · simp only [Value.slice.injEq] at hv; omega
/-- The first k elements of a slice. -/
theorem Rd.head {w : World} {B : Nat} {A : Option Addr} {c n : Nat} {xs : List Int} (h : Rd w B 2 (.slice A n c) n xs) {k : Nat} (hk : k ≤ n) : Rd w B 2 (.slice A k c) k (xs.take (k * 2)) := by
  obtain ⟨hl, A', c', e, h⟩ := h
  simp only [Value.slice.injEq, true_and] at e
  obtain ⟨rfl, rfl⟩ := e
  refine ⟨by rw [List.length_take]; omega, A, c, rfl, fun h0 => ?_⟩
  obtain ⟨b, off, rfl, hb, hc⟩ := h (by omega)
  refine ⟨b, off, rfl, hb, fun j hj => ?_⟩
  rw [hc j (by omega)]
  simp [List.getD, List.getElem?_take, hj]
theorem take_XY {xs : List Int} {j k : Nat} (h : j < k) : X (xs.take (k * 2)) j = X xs j ∧ Y (xs.take (k * 2)) j = Y xs j := by
  have a : j * 2 < k * 2 := by omega
  have b : j * 2 + 1 < k * 2 := by omega
  simp [X, Y, List.getD, List.getElem?_take, a, b]
theorem take_on {xs : List Int} {n k : Nat} (h : onField xs n) (hk : k ≤ n) : onField (xs.take (k * 2)) k := by
  intro j hj
  obtain ⟨a, b⟩ := take_XY (xs := xs) hj
  rw [a, b]; exact h j (by omega)
theorem take_len {xs : List Int} {k : Nat} : ∀ j, j < k → lenTo (xs.take (k * 2)) j = lenTo xs j
  | 0, _ => rfl
  | j + 1, h => by
    obtain ⟨a, b⟩ := take_XY (xs := xs) (j := j) (k := k) (by omega)
    obtain ⟨a', b'⟩ := take_XY (xs := xs) (j := j + 1) (k := k) h
    unfold lenTo farAt
    rw [take_len j (by omega), a, b, a', b']

set_option maxHeartbeats 1000000 in
theorem CornersPassed_any (v : Value) (n B : Nat) (xs : List Int) (L : Int) (w : World) (hcp : Cap v) (hv : Rd w B 2 v n xs) (hB : B ≤ w.heap.size) (hn : n ≤ 1099511627776) :
    Calls Try.prog 6 #[v, .int .i64 L] w fun e w' => e = .returned (.tuple #[.int .i64 (cpV n xs L), .bool (slB n xs L)]) ∧ Below w.heap.size w w' := by
  obtain ⟨A, c, rfl⟩ := hv.form
  have Hv := Lib.hid hv
  clear hv
  cases h1 : slB n xs L with
  | false =>
    have hf := Lib.hid (cp_no h1)
    go_enter Try.func6, Try.ntmps6
    go_wp2_with fail
    refine (isLength_any _ n B xs _ _ Hv.out hB hn).mono ?_
    rintro e w1 ⟨rfl, hb1⟩
    go_wp2_with fail
    go_ret2
    exact ⟨by rw [hf.out]; rfl, hb1⟩
  | true =>
    have hf := Lib.hid (cp_yes h1)
    have hy := slB_yes h1
    have hw := wayB_yes hy.1
    have HW := Lib.hid hw
    have h12 : 2 ≤ n := hw.1.1
    have h13 : n ≤ 12 := hw.1.2
    have hcap : 0 < n := by omega
    obtain ⟨b, off, rfl, _, _⟩ := Hv.out.spot hcap
    have hnc : n ≤ c := hcp _ _ _ rfl
    clear hy hw
    go_enter Try.func6, Try.ntmps6
    go_wp2_with fail
    refine (isLength_any _ n B xs _ _ Hv.out hB hn).mono ?_
    rintro e w1 ⟨rfl, hb1⟩
    go_wp2_with fail
    go_loopw [6, 7] (fun q i wr => ∃ k : Nat, k + 1 ≤ n ∧ i = .int .i64 ((k : Int) + 2) ∧ q = .int .i64 (cpTo xs L k) ∧ Below w.heap.size w wr) (fun _ i _ => n + 1 - (intOf i).toNat)
    case atStart => exact ⟨0, by omega, by simp, rfl, hb1⟩
    case round =>
      obtain ⟨k, hk, rfl, rfl, hb⟩ := hrel
      have hq := cpTo_in xs L k
      by_cases hlt : k + 1 < n
      · have Hh := Lib.hid (((Hv.out.below' hb hB).head (k := k + 2) (by omega)))
        have Hon := Lib.hid (take_on (k := k + 2) HW.out.2.1 (by omega))
        have hl := take_len (xs := xs) (k := k + 2) (k + 1) (by omega)
        have hWL := fun (W : World) (h : Rd W B 2 (.slice (some ⟨b, off, none⟩) (k + 2) c) (k + 2) (xs.take ((k + 2) * 2))) (hB : B ≤ W.heap.size) => wayLength_any _ (k + 2) B _ W h hB (by omega) (by omega) Hon.out
        rw [show k + 2 - 1 = k + 1 by omega, hl] at hWL
        have HL := Lib.hid hWL
        have hr := (lenTo_in HW.out.2.1 (k + 1) hlt)
        have HB := Lib.hid hb
        have i0 : (0 : Int) ≤ (k : Int) + 2 := by omega
        have i1 : (k : Int) + 2 ≤ (c : Int) := by omega
        have i4 : ((k : Int) + 2).toNat = k + 2 := by omega
        clear hWL hl hb hb1
        by_cases hle : lenTo xs (k + 1) ≤ L
        · have HC := Lib.hid (cpTo_yes hle)
          obtain ⟨l, el⟩ : ∃ l, lenTo xs (k + 1) = l := ⟨_, rfl⟩
          rw [el] at HL hle hr
          clear el
          go_wp2_with fail
          refine (HL.out _ Hh.out (Nat.le_trans hB HB.out.size)).mono ?_
          rintro e w2 ⟨rfl, hb2⟩
          have HB2 := Lib.hid (below_on HB.out hb2)
          clear hb2
          go_wp2_with fail
          go_roundw
          case rel => exact ⟨k + 1, by omega, by go_num, by rw [HC.out], HB2.out⟩
          case measure => simp [intOf]; omega
        · have HC := Lib.hid (cpTo_no (Int.not_le.1 hle))
          obtain ⟨l, el⟩ : ∃ l, lenTo xs (k + 1) = l := ⟨_, rfl⟩
          rw [el] at HL hle hr
          clear el
          go_wp2_with fail
          refine (HL.out _ Hh.out (Nat.le_trans hB HB.out.size)).mono ?_
          rintro e w2 ⟨rfl, hb2⟩
          have HB2 := Lib.hid (below_on HB.out hb2)
          clear hb2
          go_wp2_with fail
          go_roundw
          case rel => exact ⟨k + 1, by omega, by go_num, by rw [HC.out], HB2.out⟩
          case measure => simp [intOf]; omega
      · obtain rfl : n = k + 1 := by omega
        have HB := Lib.hid hb
        clear hb hb1
        go_wp2_with fail
        go_ret2
        exact ⟨by rw [hf.out]; rfl, HB.out⟩

set_option maxHeartbeats 1000000 in
theorem specCornersPassed_any (v : Value) (n B : Nat) (xs : List Int) (L : Int) (w : World) (hv : Rd w B 2 v n xs) (hB : B ≤ w.heap.size) (hn : n ≤ 1099511627776) :
    Calls Try.prog 7 #[v, .int .i64 L] w fun e w' => e = .returned (.tuple #[.int .i64 (cpV n xs L), .bool (slB n xs L)]) ∧ Below w.heap.size w w' := by
  obtain ⟨A, c, rfl⟩ := hv.form
  have Hv := Lib.hid hv
  clear hv
  cases h1 : slB n xs L with
  | false =>
    have hf := Lib.hid (cp_no h1)
    go_enter Try.func7, Try.ntmps7
    go_wp2_with fail
    refine (foHas_any _ n B xs _ _ Hv.out hB hn).mono ?_
    rintro e w1 ⟨rfl, hb1⟩
    go_wp2_with fail
    go_ret2
    exact ⟨by rw [hf.out]; rfl, hb1⟩
  | true =>
    have hf := Lib.hid (cp_yes h1)
    have hy := slB_yes h1
    have hw := wayB_yes hy.1
    have HL := Lib.hid hw.2.1
    have HI := Lib.hid (fun k (hk : k < n) => lenTo_in hw.2.1 k hk)
    have h12 : 2 ≤ n := hw.1.1
    have h13 : n ≤ 12 := hw.1.2
    clear hy hw
    go_enter Try.func7, Try.ntmps7
    go_wp2_with fail
    refine (foHas_any _ n B xs _ _ Hv.out hB hn).mono ?_
    rintro e w1 ⟨rfl, hb1⟩
    go_wp2_with fail
    go_loopw [6, 7, 8] (fun q s i wr => ∃ k : Nat, k + 1 ≤ n ∧ i = .int .i64 ((k : Int) + 1) ∧ s = .int .i64 (lenTo xs k) ∧ q = .int .i64 (cpTo xs L k) ∧ Below w.heap.size w wr) (fun _ _ i _ => n - (intOf i).toNat)
    case atStart => exact ⟨0, by omega, by simp, rfl, rfl, hb1⟩
    case round =>
      obtain ⟨k, hk, rfl, rfl, rfl, hb⟩ := hrel
      obtain ⟨q1, q2⟩ := cpTo_in xs L k
      by_cases hlt : k + 1 < n
      · obtain ⟨b, off, rfl, hbB, hc⟩ := Hv.out.spot (by omega)
        have hc0 := hc k (by omega)
        have hc1 := hc (k + 1) hlt
        obtain ⟨x, ex⟩ : ∃ x, X xs k = x := ⟨_, rfl⟩
        obtain ⟨y, ey⟩ : ∃ y, Y xs k = y := ⟨_, rfl⟩
        obtain ⟨z, ez⟩ : ∃ z, X xs (k + 1) = z := ⟨_, rfl⟩
        obtain ⟨u, eu⟩ : ∃ u, Y xs (k + 1) = u := ⟨_, rfl⟩
        have s1 := HL.out k (by omega)
        have s2 := HL.out (k + 1) hlt
        have hs : lenTo xs (k + 1) = lenTo xs k + farL x y z u := by rw [← ex, ← ey, ← ez, ← eu]; rfl
        have hi := HI.out k (by omega)
        have hyes := cpTo_yes (xs := xs) (L := L) (k := k)
        have hno := cpTo_no (xs := xs) (L := L) (k := k)
        rw [ex, ey] at hc0 s1
        rw [ez, eu] at hc1 s2
        have hf := farL_in s1 s2
        have hFF := fun W => foFar_any x y z u W s1 s2
        obtain ⟨p, ep⟩ : ∃ p, farL x y z u = p := ⟨_, rfl⟩
        rw [ep] at hf hs hFF
        rw [hs] at hyes hno
        have HF := Lib.hid hFF
        have HS := Lib.hid hs
        have HYes := Lib.hid hyes
        have HNo := Lib.hid hno
        obtain ⟨l, el⟩ : ∃ l, lenTo xs k = l := ⟨_, rfl⟩
        obtain ⟨q, eq⟩ : ∃ q, cpTo xs L k = q := ⟨_, rfl⟩
        rw [el] at hi HS HYes HNo
        rw [eq] at HYes HNo q1 q2
        rw [el, eq]
        have c0 := (hb.cell (p := ⟨b, off + k * 2, none⟩) (Nat.lt_of_lt_of_le hbB hB)).trans hc0.1
        have c1 := (hb.cell (p := ⟨b, off + k * 2 + 1, none⟩) (Nat.lt_of_lt_of_le hbB hB)).trans hc0.2
        have d0 := (hb.cell (p := ⟨b, off + (k + 1) * 2, none⟩) (Nat.lt_of_lt_of_le hbB hB)).trans hc1.1
        have d1 := (hb.cell (p := ⟨b, off + (k + 1) * 2 + 1, none⟩) (Nat.lt_of_lt_of_le hbB hB)).trans hc1.2
        have e1 := IntWalk.i64_in (l + p) (by omega)
        have i0 : (0 : Int) ≤ (k : Int) := by omega
        have i1 : (k : Int) < (n : Int) := by omega
        have i2 : (0 : Int) ≤ (k : Int) + 1 := by omega
        have i3 : (k : Int) + 1 < (n : Int) := by omega
        have i4 : ((k : Int) + 1).toNat = k + 1 := by omega
        have i5 := IntWalk.i64_in (k : Int) (by omega)
        have i6 := IntWalk.i64_in ((k : Int) + 1) (by omega)
        have HB := Lib.hid hb
        clear hc hc0 hc1 ex ey ez eu ep el eq hs s1 s2 hi hf hb hFF hyes hno hb1
        go_wp2_with fail
        go_region_held3 (fun W => W.cell? ⟨b, off + k * 2, none⟩ = some (.int .i64 x) ∧ W.cell? ⟨b, off + k * 2 + 1, none⟩ = some (.int .i64 y) ∧ W.cell? ⟨b, off + (k + 1) * 2, none⟩ = some (.int .i64 z) ∧ W.cell? ⟨b, off + (k + 1) * 2 + 1, none⟩ = some (.int .i64 u) ∧ Below w.heap.size w W)
          (first | exact ⟨c0, c1, d0, d1, HB.out.drew⟩ | (go_split_ands; exact ⟨cell_on hb2 (by assumption), cell_on hb2 (by assumption), cell_on hb2 (by assumption), cell_on hb2 (by assumption), below_on (by assumption) hb2⟩) | go_keep)
          (first | (go_at_call 38; refine (HF.out _).mono ?_; rintro e w2 ⟨rfl, hb2⟩))
        go_split_ands
        rename_i hb9
        have HB9 := Lib.hid hb9
        clear c0 c1 d0 d1 hb9 e1 i4 i5 i6
        by_cases hle : l + p ≤ L
        · have HC := Lib.hid (HYes.out hle)
          go_wp2_with fail
          go_roundw
          case rel => exact ⟨k + 1, by omega, by go_num, by rw [HS.out], by rw [HC.out], HB9.out⟩
          case measure => simp [intOf]; omega
        · have HC := Lib.hid (HNo.out (Int.not_le.1 hle))
          go_wp2_with fail
          go_roundw
          case rel => exact ⟨k + 1, by omega, by go_num, by rw [HS.out], by rw [HC.out], HB9.out⟩
          case measure => simp [intOf]; omega
      · obtain rfl : n = k + 1 := by omega
        have HB := Lib.hid hb
        clear hb hb1
        go_wp2_with fail
        go_ret2
        exact ⟨by rw [hf.out]; rfl, HB.out⟩
end Go.Proofs.Ytciolimmfldpbaa
