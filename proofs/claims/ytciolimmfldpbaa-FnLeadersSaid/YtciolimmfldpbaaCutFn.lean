/- A cut at which all slots but a few are forgotten: they are the values of one unknown function. Without conditions. -/
import Derived.WalkKit
import Derived.KernelRfl
import Derived.Deep.DeepCutAuto
namespace Go.Proofs.Ytciolimmfldpbaa

/-- What slot n holds. -/
noncomputable def nth (l : List Value) : Nat → Value := List.rec (fun _ => undef) (fun v _ ih n => Nat.rec v (fun k _ => ih k) n) l
theorem meet_at {l : List Value} {F : (Nat → Value) → List Value} {R : (Nat → Value) → Prop} (h : R (nth l)) (hf : l = F (nth l)) : ∃ f : Nat → Value, R f ∧ (⟨l.toArray, []⟩ : Act) = ⟨(F f).toArray, []⟩ := ⟨nth l, h, by rw [← hf]⟩
end Go.Proofs.Ytciolimmfldpbaa
