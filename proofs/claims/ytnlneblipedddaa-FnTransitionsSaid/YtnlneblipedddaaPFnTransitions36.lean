/- The law's own comparison of two lists of whole numbers, where they are the same; and its question whether the input is big. Condition: both lists can be read. -/
import Derived.Test.YtnlneblipedddaaPFnTransitions01
import Derived.Test.YtnlneblipedddaaProg
import Derived.BigQuiet
import Derived.Deep.QuietTactic
namespace Go.Proofs.Ytnlneblipedddaa
open Go.RowKit
def Ans (w : World) (e : Ending) (w' : World) : Prop := ∃ b : Bool, e = .returned (.bool b) ∧ w = w'
theorem big_any (A0 : Option Addr) (n0 c0 : Nat) (A1 : Option Addr) (n1 c1 : Nat) (w : World) : Calls Try.prog 5 #[.slice A0 n0 c0, .slice A1 n1 c1] w (Ans w) := by
  by_cases h : (1048576 : Int) < (n0 : Int)
  · go_enter Try.func5, Try.ntmps5
    go_wp2_with fail
    go_ret
    exact ⟨_, rfl, rfl⟩
  · go_enter Try.func5, Try.ntmps5
    go_wp2_with fail
    go_ret
    exact ⟨_, rfl, rfl⟩
set_option maxHeartbeats 800000 in
theorem sameInts_same (v u : Value) (n B : Nat) (xs : List Int) (w : World) (hv : Rd w B 1 v n xs) (hu : Rd w B 1 u n xs) (hB : B ≤ w.heap.size) (hn : n ≤ 1099511627776) :
    Calls Try.prog 43 #[v, u] w fun e w' => e = .returned (.bool true) ∧ Below w.heap.size w w' := by
  obtain ⟨_, A, c, rfl, hv⟩ := hv
  obtain ⟨_, C, d, rfl, hu⟩ := hu
  have Hv := Lib.hid hv
  have Hu := Lib.hid hu
  clear hv hu
  have hnn : ((n : Int) != (n : Int)) = false := by simp
  go_enter Try.func43, Try.ntmps43
  go_wp2_with fail
  go_loopw [13] (fun i wr => ∃ k : Nat, k ≤ n ∧ i = .int .i64 k ∧ Below w.heap.size w wr) (fun i _ => n - (intOf i).toNat)
  case atStart => exact ⟨0, Nat.zero_le _, rfl, Below.refl _ _⟩
  case round =>
    obtain ⟨k, hk, rfl, hb⟩ := hrel
    by_cases hlt : k < n
    · obtain ⟨b, off, rfl, hbB, hc⟩ := Hv.out (by omega)
      obtain ⟨b', off', rfl, hbB', hc'⟩ := Hu.out (by omega)
      have c0 := (hb.cell (p := ⟨b, off + k, none⟩) (Nat.lt_of_lt_of_le hbB hB)).trans (hc k (by omega))
      have d0 := (hb.cell (p := ⟨b', off' + k, none⟩) (Nat.lt_of_lt_of_le hbB' hB)).trans (hc' k (by omega))
      obtain ⟨x, ex⟩ : ∃ x, xs.getD k 0 = x := ⟨_, rfl⟩
      rw [ex] at c0 d0
      have nq : (x != x) = false := by simp
      have hk0 : (0 : Int) ≤ (k : Int) := by omega
      have hk1 : (k : Int) < (n : Int) := by omega
      have HB := Lib.hid hb
      clear hc hc' ex hb
      go_wp2_with fail
      go_quiet (fail)
      go_wp2_with fail
      go_roundw
      case rel => exact ⟨k + 1, by omega, by go_num, below_drewN HB.out _⟩
      case measure => simp [intOf]; omega
    · have HB := Lib.hid hb
      clear hb
      go_wp2_with fail
      go_ret
      exact ⟨rfl, HB.out⟩
end Go.Proofs.Ytnlneblipedddaa
