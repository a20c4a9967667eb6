/- The contract of the reference's IsWay. Condition: the slice can be read. -/
import Derived.Test.YtckcoeimboehbaaWay
namespace Go.Proofs.Ytckcoeimboehbaa
open Go.RowKit
theorem specIsWay_any (v : Value) (n B : Nat) (xs : List Int) (w : World) (hv : Rd w B 2 v n xs) (hB : B ≤ w.heap.size) (hn : n ≤ 1099511627776) :
    Calls Try.prog 17 #[v] w fun e w' => e = .returned (.bool (wayB n xs)) ∧ Below w.heap.size w w' := by
  have Hv := Lib.hid hv
  clear hv
  go_enter Try.func17, Try.ntmps17
  go_wp2_with fail
  refine (foGood_any v n B xs _ Hv.out hB hn).mono ?_
  rintro e w1 ⟨rfl, hb1⟩
  have HB := Lib.hid hb1
  clear hb1
  go_wp2_with fail
  go_ret
  exact ⟨rfl, HB.out⟩
end Go.Proofs.Ytckcoeimboehbaa
