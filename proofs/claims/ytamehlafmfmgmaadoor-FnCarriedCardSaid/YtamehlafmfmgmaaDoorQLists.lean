/- The laws' comparisons of two lists of whole numbers and of two lists of carries, where they are the same; and whether a number is in a list. Condition: the lists can be read. -/
import Derived.Test.YtamehlafmfmgmaaDoorMem
import Derived.Test.YtamehlafmfmgmaaDoorProg
import Derived.BigQuiet
import Derived.Deep.QuietTactic
namespace Go.Proofs.YtamehlafmfmgmaaDoor
open Go.RowKit
set_option maxHeartbeats 800000 in
theorem qInts_same (v u : Value) (n B : Nat) (xs : List Int) (w : World) (hv : Rd w B 1 v n xs) (hu : Rd w B 1 u n xs) (hB : B ≤ w.heap.size) (hn : n ≤ 1099511627776) :
    Calls Tryd.prog 24 #[v, u] w fun e w' => e = .returned (.bool true) ∧ Below w.heap.size w w' := by
  obtain ⟨_, A, c, rfl, hv⟩ := hv
  obtain ⟨_, C, d, rfl, hu⟩ := hu
  have Hv := Lib.hid hv
  have Hu := Lib.hid hu
  clear hv hu
  have hnn : ((n : Int) != (n : Int)) = false := by simp
  go_enter Tryd.func24, Tryd.ntmps24
  go_wp2_with fail
  go_loopw [13] (fun i wr => ∃ k : Nat, k ≤ n ∧ i = .int .i64 k ∧ Below w.heap.size w wr) (fun i _ => n - (intOf i).toNat)
  case atStart => exact ⟨0, Nat.zero_le _, rfl, Below.refl _ _⟩
  case round =>
    obtain ⟨k, hk, rfl, hb⟩ := hrel
    by_cases hlt : k < n
    · obtain ⟨b, off, rfl, hbB, hc⟩ := Hv.out (by omega)
      obtain ⟨b', off', rfl, hbB', hc'⟩ := Hu.out (by omega)
      have c0 := (hb.cell (p := ⟨b, off + k, none⟩) (Nat.lt_of_lt_of_le hbB hB)).trans (hc k (by omega))
      have d0 := (hb.cell (p := ⟨b', off' + k, none⟩) (Nat.lt_of_lt_of_le hbB' hB)).trans (hc' k (by omega))
      obtain ⟨x, ex⟩ : ∃ x, xs.getD k 0 = x := ⟨_, rfl⟩
      rw [ex] at c0 d0
      have nq : (x != x) = false := by simp
      have hk0 : (0 : Int) ≤ (k : Int) := by omega
      have hk1 : (k : Int) < (n : Int) := by omega
      have HB := Lib.hid hb
      clear hc hc' ex hb
      go_wp2_with fail
      go_quiet (fail)
      go_wp2_with fail
      go_roundw
      case rel => exact ⟨k + 1, by omega, by go_num, below_drewN HB.out _⟩
      case measure => simp [intOf]; omega
    · have HB := Lib.hid hb
      clear hb
      go_wp2_with fail
      go_ret
      exact ⟨rfl, HB.out⟩
/-- Whether a number is among the first k of a list. -/
def hasTo (xs : List Int) (p : Int) (k : Nat) : Bool := (xs.take k).any fun x => x == p
theorem hasTo_next {xs : List Int} {p : Int} {k : Nat} (hk : k < xs.length) (h : (xs.getD k 0 == p) = false) : hasTo xs p (k + 1) = hasTo xs p k := by
  unfold hasTo
  rw [List.take_add_one, List.any_append]
  simp only [List.getD, hk, List.getElem?_eq_getElem, Option.getD_some, Option.toList_some, List.any_cons, List.any_nil, Bool.or_false] at h ⊢
  rw [h, Bool.or_false]
theorem hasTo_here {xs : List Int} {p : Int} {k : Nat} (hk : k < xs.length) (h : (xs.getD k 0 == p) = true) : hasTo xs p xs.length = true := by
  unfold hasTo
  rw [List.take_length, List.any_eq_true]
  refine ⟨xs[k], List.getElem_mem _, ?_⟩
  simpa [List.getD, hk] using h
end Go.Proofs.YtamehlafmfmgmaaDoor
