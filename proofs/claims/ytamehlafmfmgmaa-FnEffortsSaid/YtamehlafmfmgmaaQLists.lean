/- The laws' comparisons of two lists of whole numbers and of two lists of carries, where they are the same; and whether a number is in a list. Condition: the lists can be read. -/
import Derived.Test.YtamehlafmfmgmaaMem
import Derived.Test.YtamehlafmfmgmaaProg
import Derived.BigQuiet
import Derived.Deep.QuietTactic
namespace Go.Proofs.Ytamehlafmfmgmaa
open Go.RowKit
set_option maxHeartbeats 800000 in
theorem qInts_same (v u : Value) (n B : Nat) (xs : List Int) (w : World) (hv : Rd w B 1 v n xs) (hu : Rd w B 1 u n xs) (hB : B ≤ w.heap.size) (hn : n ≤ 1099511627776) :
    Calls Try.prog 26 #[v, u] w fun e w' => e = .returned (.bool true) ∧ Below w.heap.size w w' := by
  obtain ⟨_, A, c, rfl, hv⟩ := hv
  obtain ⟨_, C, d, rfl, hu⟩ := hu
  have Hv := Lib.hid hv
  have Hu := Lib.hid hu
  clear hv hu
  have hnn : ((n : Int) != (n : Int)) = false := by simp
  go_enter Try.func26, Try.ntmps26
  go_wp2_with fail
  go_loopw [13] (fun i wr => ∃ k : Nat, k ≤ n ∧ i = .int .i64 k ∧ Below w.heap.size w wr) (fun i _ => n - (intOf i).toNat)
  case atStart => exact ⟨0, Nat.zero_le _, rfl, Below.refl _ _⟩
  case round =>
    obtain ⟨k, hk, rfl, hb⟩ := hrel
    by_cases hlt : k < n
    · obtain ⟨b, off, rfl, hbB, hc⟩ := Hv.out (by omega)
      obtain ⟨b', off', rfl, hbB', hc'⟩ := Hu.out (by omega)
      have c0 := (hb.cell (p := ⟨b, off + k, none⟩) (Nat.lt_of_lt_of_le hbB hB)).trans (hc k (by omega))
      have d0 := (hb.cell (p := ⟨b', off' + k, none⟩) (Nat.lt_of_lt_of_le hbB' hB)).trans (hc' k (by omega))
      obtain ⟨x, ex⟩ : ∃ x, xs.getD k 0 = x := ⟨_, rfl⟩
      rw [ex] at c0 d0
      have nq : (x != x) = false := by simp
      have hk0 : (0 : Int) ≤ (k : Int) := by omega
      have hk1 : (k : Int) < (n : Int) := by omega
      have HB := Lib.hid hb
      clear hc hc' ex hb
      go_wp2_with fail
      go_quiet (fail)
      go_wp2_with fail
      go_roundw
      case rel => exact ⟨k + 1, by omega, by go_num, below_drewN HB.out _⟩
      case measure => simp [intOf]; omega
    · have HB := Lib.hid hb
      clear hb
      go_wp2_with fail
      go_ret
      exact ⟨rfl, HB.out⟩
set_option maxHeartbeats 1600000 in
theorem qCarries_same (v u : Value) (n B : Nat) (xs : List Int) (w : World) (hv : Rd w B 4 v n xs) (hu : Rd w B 4 u n xs) (hB : B ≤ w.heap.size) (hn : n ≤ 1099511627776) :
    Calls Try.prog 25 #[v, u] w fun e w' => e = .returned (.bool true) ∧ Below w.heap.size w w' := by
  obtain ⟨_, A, c, rfl, hA⟩ := hv
  obtain ⟨_, C, d, rfl, hC⟩ := hu
  have hnn : ((n : Int) != (n : Int)) = false := by simp
  go_enter Try.func25, Try.ntmps25
  go_wp2_with fail
  go_loopw [13] (fun i wr => ∃ k : Nat, k ≤ n ∧ i = .int .i64 k ∧ Below w.heap.size w wr) (fun i _ => n - (intOf i).toNat)
  case atStart => exact ⟨0, Nat.zero_le _, rfl, Below.refl _ _⟩
  case round =>
    obtain ⟨k, hk, rfl, hb⟩ := hrel
    by_cases hlt : k < n
    · obtain ⟨b, off, rfl, hbB, hc⟩ := hA (by omega)
      obtain ⟨b', off', rfl, hbB', hc'⟩ := hC (by omega)
      have c0 := (hb.cell (p := ⟨b, off + k * 4, none⟩) (Nat.lt_of_lt_of_le hbB hB)).trans (hc (k * 4) (by omega))
      have d0 := (hb.cell (p := ⟨b', off' + k * 4, none⟩) (Nat.lt_of_lt_of_le hbB' hB)).trans (hc' (k * 4) (by omega))
      have c1 := (hb.cell (p := ⟨b, off + (k * 4 + 1), none⟩) (Nat.lt_of_lt_of_le hbB hB)).trans (hc (k * 4 + 1) (by omega))
      have d1 := (hb.cell (p := ⟨b', off' + (k * 4 + 1), none⟩) (Nat.lt_of_lt_of_le hbB' hB)).trans (hc' (k * 4 + 1) (by omega))
      have c2 := (hb.cell (p := ⟨b, off + (k * 4 + 2), none⟩) (Nat.lt_of_lt_of_le hbB hB)).trans (hc (k * 4 + 2) (by omega))
      have d2 := (hb.cell (p := ⟨b', off' + (k * 4 + 2), none⟩) (Nat.lt_of_lt_of_le hbB' hB)).trans (hc' (k * 4 + 2) (by omega))
      have c3 := (hb.cell (p := ⟨b, off + (k * 4 + 3), none⟩) (Nat.lt_of_lt_of_le hbB hB)).trans (hc (k * 4 + 3) (by omega))
      have d3 := (hb.cell (p := ⟨b', off' + (k * 4 + 3), none⟩) (Nat.lt_of_lt_of_le hbB' hB)).trans (hc' (k * 4 + 3) (by omega))
      rw [← Nat.add_assoc] at c1 d1 c2 d2 c3 d3
      obtain ⟨x, ex⟩ : ∃ a, xs.getD (k * 4) 0 = a := ⟨_, rfl⟩
      rw [ex] at c0 d0
      obtain ⟨y, ey⟩ : ∃ a, xs.getD (k * 4 + 1) 0 = a := ⟨_, rfl⟩
      rw [ey] at c1 d1
      obtain ⟨z, ez⟩ : ∃ a, xs.getD (k * 4 + 2) 0 = a := ⟨_, rfl⟩
      rw [ez] at c2 d2
      obtain ⟨u, eu⟩ : ∃ a, xs.getD (k * 4 + 3) 0 = a := ⟨_, rfl⟩
      rw [eu] at c3 d3
      have hk0 : (0 : Int) ≤ (k : Int) := by omega
      have hk1 : (k : Int) < (n : Int) := by omega
      have q0 : (x != x) = false := by simp
      have q1 : (y != y) = false := by simp
      have q2 : (z != z) = false := by simp
      have q3 : (u != u) = false := by simp
      have HB := Lib.hid hb
      clear hc hc' hA hC ex ey ez eu hb
      go_wp2_with fail
      go_quiet (fail)
      go_wp2_with fail
      go_roundw
      case rel => exact ⟨k + 1, by omega, by go_num, below_drewN HB.out _⟩
      case measure => simp [intOf]; omega
    · have HB := Lib.hid hb
      clear hb hA hC
      go_wp2_with fail
      go_ret
      exact ⟨rfl, HB.out⟩
/-- Whether a number is among the first k of a list. -/
def hasTo (xs : List Int) (p : Int) (k : Nat) : Bool := (xs.take k).any fun x => x == p
theorem hasTo_next {xs : List Int} {p : Int} {k : Nat} (hk : k < xs.length) (h : (xs.getD k 0 == p) = false) : hasTo xs p (k + 1) = hasTo xs p k := by
  unfold hasTo
  rw [List.take_add_one, List.any_append]
  simp only [List.getD, hk, List.getElem?_eq_getElem, Option.getD_some, Option.toList_some, List.any_cons, List.any_nil, Bool.or_false] at h ⊢
  rw [h, Bool.or_false]
theorem hasTo_here {xs : List Int} {p : Int} {k : Nat} (hk : k < xs.length) (h : (xs.getD k 0 == p) = true) : hasTo xs p xs.length = true := by
  unfold hasTo
  rw [List.take_length, List.any_eq_true]
  refine ⟨xs[k], List.getElem_mem _, ?_⟩
  simpa [List.getD, hk] using h
set_option maxHeartbeats 1600000 in
theorem qHas_any (v : Value) (n B : Nat) (xs : List Int) (p : Int) (w : World) (hv : Rd w B 1 v n xs) (hB : B ≤ w.heap.size) (hn : n ≤ 1099511627776) :
    Calls Try.prog 28 #[v, .int .i64 p] w fun e w' => e = .returned (.bool (hasTo xs p n)) ∧ Below w.heap.size w w' := by
  obtain ⟨hl, A, c, rfl, hA⟩ := hv
  rw [Nat.mul_one] at hl
  have Hl := Lib.hid hl
  clear hl
  go_enter Try.func28, Try.ntmps28
  go_wp2_with fail
  go_loopw [9] (fun i wr => ∃ k : Nat, k ≤ n ∧ i = .int .i64 k ∧ hasTo xs p k = false ∧ Below w.heap.size w wr) (fun i _ => n - (intOf i).toNat)
  case atStart => exact ⟨0, Nat.zero_le _, rfl, by simp [hasTo], Below.refl _ _⟩
  case round =>
    obtain ⟨k, hk, rfl, hno, hb⟩ := hrel
    by_cases hlt : k < n
    · obtain ⟨b, off, rfl, hbB, hc⟩ := hA (by omega)
      have c0 := (hb.cell (p := ⟨b, off + k, none⟩) (Nat.lt_of_lt_of_le hbB hB)).trans (hc k (by omega))
      have hk0 : (0 : Int) ≤ (k : Int) := by omega
      have hk1 : (k : Int) < (n : Int) := by omega
      have HB := Lib.hid hb
      have HN := Lib.hid hno
      cases hx : (xs.getD k 0 == p) with
      | true =>
        have HT := Lib.hid (hasTo_here (by rw [Hl.out]; exact hlt) hx)
        rw [Hl.out] at HT
        obtain ⟨x, ex⟩ : ∃ x, xs.getD k 0 = x := ⟨_, rfl⟩
        rw [ex] at c0 hx
        clear hc hA ex hb hno
        go_wp2_with fail
        go_ret
        exact ⟨by rw [HT.out]; rfl, HB.out⟩
      | false =>
        have HT := Lib.hid ((hasTo_next (by rw [Hl.out]; exact hlt) hx).trans hno)
        obtain ⟨x, ex⟩ : ∃ x, xs.getD k 0 = x := ⟨_, rfl⟩
        rw [ex] at c0 hx
        clear hc hA ex hb hno
        go_wp2_with fail
        go_roundw
        case rel => exact ⟨k + 1, by omega, by go_num, HT.out, HB.out⟩
        case measure => simp [intOf]; omega
    · obtain rfl : k = n := by omega
      have HB := Lib.hid hb
      have HN := Lib.hid hno
      clear hb hA hno
      go_wp2_with fail
      go_ret
      exact ⟨by rw [HN.out]; rfl, HB.out⟩
end Go.Proofs.Ytamehlafmfmgmaa
