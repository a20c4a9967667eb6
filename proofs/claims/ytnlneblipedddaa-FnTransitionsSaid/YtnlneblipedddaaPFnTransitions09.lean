/- A cut at which all slots but a few are forgotten: they are the values of one unknown function. Without conditions. What a function with four or five results hands back. Without conditions. Bytes that can be read stay so. Without conditions. -/
import Derived.WalkKit
import Derived.KernelRfl
import Derived.Deep.DeepCutAuto
import Derived.Test.YtnlneblipedddaaPFnTransitions06
namespace Go.Proofs.Ytnlneblipedddaa

/-- What slot n holds. -/
noncomputable def nth (l : List Value) : Nat → Value := List.rec (fun _ => undef) (fun v _ ih n => Nat.rec v (fun k _ => ih k) n) l
theorem meet_at {l : List Value} {F : (Nat → Value) → List Value} {R : (Nat → Value) → Prop} (h : R (nth l)) (hf : l = F (nth l)) : ∃ f : Nat → Value, R f ∧ (⟨l.toArray, []⟩ : Act) = ⟨(F f).toArray, []⟩ := ⟨nth l, h, by rw [← hf]⟩
/-- The code behind the first k statements of a sequence. -/
def tailOf : Nat → Code → Code
  | 0, c => c
  | k + 1, .seq _ b => tailOf k b
  | _ + 1, c => c
theorem wp_of_fn {P : Program} {c : Code} {Q : Exit → Act → World → Prop} {l : List Value} {F : (Nat → Value) → List Value} {w : World} (hf : l = F (nth l)) (h : ∀ f : Nat → Value, Code.wp P c Q ⟨(F f).toArray, []⟩ w) : Code.wp P c Q ⟨l.toArray, []⟩ w := by
  have := h (nth l)
  rw [← hf] at this
  exact this
end Go.Proofs.Ytnlneblipedddaa
namespace Go.Proofs.Ytnlneblipedddaa
theorem results_tmp4 {fn : Func} {t u v x : Tmp} (h : fn.results = #[.tmp t, .tmp u, .tmp v, .tmp x]) (tmps : Array Value) (P : Program) (w : World) :
    (results fn tmps).run P w = .ok (.tuple #[tmps.getD t undef, tmps.getD u undef, tmps.getD v undef, tmps.getD x undef]) w := by
  simp [results, h]
theorem results_tmp5 {fn : Func} {t u v x y : Tmp} (h : fn.results = #[.tmp t, .tmp u, .tmp v, .tmp x, .tmp y]) (tmps : Array Value) (P : Program) (w : World) :
    (results fn tmps).run P w = .ok (.tuple #[tmps.getD t undef, tmps.getD u undef, tmps.getD v undef, tmps.getD x undef, tmps.getD y undef]) w := by
  simp [results, h]
end Go.Proofs.Ytnlneblipedddaa
namespace Go.Proofs.Ytnlneblipedddaa
open Go.RowKit
theorem RdB.kept {w W : World} {A : Option Addr} {n : Nat} (h : RdB w w.heap.size A n) (hb : Below w.heap.size w W) : RdB W W.heap.size A n := by
  intro hn
  obtain ⟨b, off, e, hlt, hc⟩ := h hn
  refine ⟨b, off, e, Nat.lt_of_lt_of_le hlt hb.size, fun j hj => ?_⟩
  obtain ⟨z, z0, z1, h2⟩ := hc j hj
  exact ⟨z, z0, z1, (hb.cell (p := ⟨b, off + j, none⟩) hlt).trans h2⟩
end Go.Proofs.Ytnlneblipedddaa
