/- The law's own comparison of two lists of whole numbers, where they are the same; and its question whether the input is big. Condition: both lists can be read. -/
import Derived.Test.YtcpbcmebfiilmaaMem
import Derived.Test.YtcpbcmebfiilmaaProg
import Derived.BigQuiet
import Derived.Deep.QuietTactic
namespace Go.Proofs.Ytcpbcmebfiilmaa
open Go.RowKit
def Ans (w : World) (e : Ending) (w' : World) : Prop := ∃ b : Bool, e = .returned (.bool b) ∧ w = w'
theorem big_any (A0 : Option Addr) (n0 c0 : Nat) (A1 : Option Addr) (n1 c1 : Nat) (w : World) : Calls Try.prog 4 #[.slice A0 n0 c0, .slice A1 n1 c1] w (Ans w) := by
  by_cases h : (1048576 : Int) < (n0 : Int)
  · go_enter Try.func4, Try.ntmps4
    go_wp2_with fail
    go_ret
    exact ⟨_, rfl, rfl⟩
  · go_enter Try.func4, Try.ntmps4
    go_wp2_with fail
    go_ret
    exact ⟨_, rfl, rfl⟩
end Go.Proofs.Ytcpbcmebfiilmaa
