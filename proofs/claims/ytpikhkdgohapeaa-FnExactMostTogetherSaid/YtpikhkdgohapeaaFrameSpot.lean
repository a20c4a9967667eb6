/- A law's argument that is a slice of spots, and the bound on its length that the law asks. Without conditions. -/
import Derived.Test.YtpikhkdgohapeaaFrame
namespace Go.Proofs.Ytpikhkdgohapeaa
open Go.ChangeShapes Go.WideShapes Go.ChangeAt Go.RowKit
section
variable {H : Type} {enc : TypeId × Value → H}
theorem intsOnly_Spot : IntsOnly (enc := enc) 23 2 :=
  intsOnly_struct [1, 1] 2 Try.underlying23 rfl (by kernel_rfl) ⟨rfl, by kernel_rfl, rfl, by kernel_rfl, trivial⟩ (by
    intro i f k hf hk
    match i, hf, hk with
    | 0, hf, hk => simp at hf hk; subst hf hk; exact intsOnly_int
    | 1, hf, hk => simp at hf hk; subst hf hk; exact intsOnly_int)
end
theorem szSpotS_yes (A : Option Addr) (n c : Nat) (l : Int) (w : World) (h : (n : Int) ≤ l) (h2 : l ≤ 1048576) : Calls Try.prog 41 #[.slice A n c, .int .i64 l] w fun e w' => e = .returned (.int .i64 (l - (n : Int))) ∧ w = w' := by
  go_enter Try.func41, Try.ntmps41
  go_wp2
  go_ret
  exact ⟨rfl, rfl⟩
theorem szSpotS_no (A : Option Addr) (n c : Nat) (l : Int) (w : World) (h : l < (n : Int)) (h2 : 0 ≤ l) (h3 : n ≤ 9223372036854775807) : Calls Try.prog 41 #[.slice A n c, .int .i64 l] w fun e w' => e = .returned (.int .i64 (-1)) ∧ w = w' := by
  go_enter Try.func41, Try.ntmps41
  go_wp2
  go_ret
  exact ⟨rfl, rfl⟩
end Go.Proofs.Ytpikhkdgohapeaa
