/- Two orderings of the same carries: if one is strict, they are the same list. Plain laws, without conditions. -/
import Derived.Test.YtamehlafmfmgmaaSortFn
namespace Go.Proofs.Ytamehlafmfmgmaa
open Go.RowKit

theorem perm_eq {α : Type} {lt : α → α → Prop} : ∀ l1 l2 : List α, l1.Perm l2 → l1.Pairwise lt → l2.Pairwise (fun a b => ¬ lt b a) → l1 = l2
  | [], l2, h, _, _ => h.nil_eq
  | a :: t, [], h, _, _ => absurd h.length_eq (by simp)
  | a :: t, b :: t2, h, h1, h2 => by
    rw [List.pairwise_cons] at h1 h2
    have hab : a = b := by
      rcases Classical.em (a = b) with e | e
      · exact e
      · exfalso
        have m1 : a ∈ b :: t2 := h.mem_iff.1 (List.mem_cons_self ..)
        have m2 : b ∈ a :: t := h.mem_iff.2 (List.mem_cons_self ..)
        rcases List.mem_cons.1 m1 with e1 | m1
        · exact e e1
        · rcases List.mem_cons.1 m2 with e2 | m2
          · exact e e2.symm
          · exact h2.1 a m1 (h1.1 b m2)
    subst hab
    rw [perm_eq t t2 ((List.perm_cons a).1 h) h1.2 h2.2]
/-- The carries of a flat list, one by one. -/
abbrev Car := Int × Int × Int × Int
def carAt (xs : List Int) (k : Nat) : Car := (cP xs k, cL xs k, cF xs k, cT xs k)
def cars (n : Nat) (xs : List Int) : List Car := (List.range n).map (carAt xs)
def flat (l : List Car) : List Int := l.flatMap fun c => [c.1, c.2.1, c.2.2.1, c.2.2.2]
def carLt (a b : Car) : Prop := befB a.2.1 a.2.2.1 b.2.1 b.2.2.1 = true
theorem flat_length (l : List Car) : (flat l).length = l.length * 4 := by
  induction l with
  | nil => rfl
  | cons a t ih =>
    have : flat (a :: t) = [a.1, a.2.1, a.2.2.1, a.2.2.2] ++ flat t := rfl
    rw [this, List.length_append, ih, List.length_cons, List.length_cons, List.length_cons, List.length_cons, List.length_cons, List.length_nil]; omega
theorem flat_get (l : List Car) : ∀ k j, k < l.length → j < 4 → (flat l).getD (k * 4 + j) 0 = [(l.getD k (0, 0, 0, 0)).1, (l.getD k (0, 0, 0, 0)).2.1, (l.getD k (0, 0, 0, 0)).2.2.1, (l.getD k (0, 0, 0, 0)).2.2.2].getD j 0 := by
  induction l with
  | nil => intro k j h _; exact absurd h (by simp)
  | cons a t ih =>
    intro k j hk hj
    have e : flat (a :: t) = [a.1, a.2.1, a.2.2.1, a.2.2.2] ++ flat t := rfl
    rw [e]
    cases k with
    | zero =>
      match j, hj with
      | 0, _ => rfl
      | 1, _ => rfl
      | 2, _ => rfl
      | 3, _ => rfl
    | succ k =>
      have := ih k j (by simpa using hk) hj
      rw [show (k + 1) * 4 + j = (k * 4 + j) + 1 + 1 + 1 + 1 by omega]
      simpa using this
theorem befB_irr (l f l' f' : Int) (h : befB l f l' f' = true) : befB l' f' l f = false := by
  cases hh : befB l' f' l f with
  | false => rfl
  | true =>
    simp only [befB, Bool.or_eq_true, Bool.and_eq_true, decide_eq_true_eq, beq_iff_eq] at h hh
    omega
end Go.Proofs.Ytamehlafmfmgmaa
