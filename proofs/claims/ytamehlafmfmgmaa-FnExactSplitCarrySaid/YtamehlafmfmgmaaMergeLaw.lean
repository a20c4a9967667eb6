/- The parts of a merge by rotation: which come before which. Plain laws, without conditions. -/
import Derived.Test.YtamehlafmfmgmaaSortLaw
namespace Go.Proofs.Ytamehlafmfmgmaa
open Go.RowKit

/-- Each of the one comes weakly before each of the other. -/
def Before (l m : List Car) : Prop := ∀ x ∈ l, ∀ y ∈ m, ¬ carLt y x
theorem weak_two {l m : List Car} : Weak (l ++ m) ↔ Weak l ∧ Weak m ∧ Before l m := by
  unfold Weak Before
  rw [List.pairwise_append]
theorem carLt_irr (a : Car) : ¬ carLt a a := fun h => carLt_asym h h
theorem before_last {l : List Car} {z : Car} (h : Weak (l ++ [z])) : ∀ x ∈ l ++ [z], ¬ carLt z x := by
  intro x hx
  rcases List.mem_append.1 hx with hx | hx
  · exact (weak_two.1 h).2.2 x hx z (by simp)
  · rw [List.mem_singleton.1 hx]; exact carLt_irr z
theorem before_first {l : List Car} {z : Car} (h : Weak (z :: l)) : ∀ y ∈ z :: l, ¬ carLt y z := by
  intro y hy
  rcases List.mem_cons.1 hy with rfl | hy
  · exact carLt_irr y
  · exact (List.pairwise_cons.1 h).1 y hy
/-- If the last of the one comes weakly before the first of the other, so do all. -/
theorem before_ends {l m : List Car} {x y : Car} (hl : Weak (l ++ [x])) (hm : Weak (y :: m)) (h : ¬ carLt y x) : Before (l ++ [x]) (y :: m) := fun u hu v hv =>
  carLt_trans (carLt_trans (before_last hl u hu) h) (before_first hm v hv)
/-- The four parts of a merge: A B is in order, C D is; B and C change places. -/
theorem merge_parts {A B C D P Q : List Car} (h1 : Weak (A ++ B)) (h2 : Weak (C ++ D)) (h3 : Before A D) (h4 : Before C B) (hp : P.Perm (A ++ C)) (hq : Q.Perm (B ++ D)) (wp : Weak P) (wq : Weak Q) : Weak (P ++ Q) ∧ (P ++ Q).Perm (A ++ B ++ (C ++ D)) := by
  obtain ⟨_, _, k1⟩ := weak_two.1 h1
  obtain ⟨_, _, k2⟩ := weak_two.1 h2
  refine ⟨weak_two.2 ⟨wp, wq, fun x hx y hy => ?_⟩, ?_⟩
  · rcases List.mem_append.1 (hp.mem_iff.1 hx) with hx | hx <;> rcases List.mem_append.1 (hq.mem_iff.1 hy) with hy | hy
    · exact k1 x hx y hy
    · exact h3 x hx y hy
    · exact h4 x hx y hy
    · exact k2 x hx y hy
  · refine (hp.append hq).trans ?_
    rw [List.append_assoc, List.append_assoc]
    refine List.Perm.append_left A ?_
    rw [← List.append_assoc, ← List.append_assoc]
    exact List.Perm.append_right D List.perm_append_comm
end Go.Proofs.Ytamehlafmfmgmaa
