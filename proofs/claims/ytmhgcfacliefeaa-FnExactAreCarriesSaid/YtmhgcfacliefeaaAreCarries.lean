/- The contract of the reference's AreCarries. Condition: the slice can be read, and its length is at most its capacity. -/
import Derived.Test.YtmhgcfacliefeaaAreSpec
namespace Go.Proofs.Ytmhgcfacliefeaa
open Go.RowKit
theorem specAreCarries_any (v : Value) (n B : Nat) (xs : List Int) (w : World) (hcp : Cap v) (hv : Rd w B 4 v n xs) (hB : B ≤ w.heap.size) (hn : n ≤ 1099511627776) :
    Calls Try.prog 17 #[v] w fun e w' => e = .returned (.bool (gcB n xs)) ∧ Below w.heap.size w w' := by
  have Hv := Lib.hid hv
  have Hc := Lib.hid hcp
  clear hv hcp
  go_enter Try.func17, Try.ntmps17
  go_wp2_with fail
  refine (caGood_any v n B xs _ Hc.out Hv.out hB hn).mono ?_
  rintro e w1 ⟨rfl, hb1⟩
  have HB := Lib.hid hb1
  clear hb1
  go_wp2_with fail
  go_ret
  exact ⟨rfl, HB.out⟩
end Go.Proofs.Ytmhgcfacliefeaa
