/- A list of whole numbers in the midst of a draw. Condition: the source's bytes can be read. -/
import Derived.Test.YtamehlafmfmgmaaDoorCurAny
import Derived.Test.YtamehlafmfmgmaaDoorIntApp
namespace Go.Proofs.YtamehlafmfmgmaaDoor
open Go.RowKit

theorem own_ask {W W' : World} {base g sz n : Nat} {e : TypeId} {v : Value} {vs : List Value} (h : W.ownsRow base e sz v n vs) (hlt : g < base) (hg : W.grownBy W' (some g)) : W'.ownsRow base e sz v n vs :=
  h.kept hg (.inr fun e => by have := (h.lt g e).1; omega)
theorem own_start {w : World} {base sz k c : Nat} {e : TypeId} {A : Option Addr} {vs : List Value} (h : w.ownsRow base e sz (.slice A k c) k vs) (hk : 0 < k) : ∃ g1, A = some ⟨g1, 0, none⟩ ∧ base ≤ g1 := by
  rcases h.2 with ⟨hv, _⟩ | ⟨g1, cap, cur, hv, hb, _⟩
  · simp only [Value.slice.injEq] at hv; omega
  · simp only [Value.slice.injEq, true_and] at hv
    exact ⟨g1, hv.1, hb⟩
/-- The list u of k numbers xs is owned, from the world a on, and the source is block g. -/
structure Ln (a : World) (B g N : Nat) (W : World) (u : Value) (k : Nat) (xs : List Int) : Prop where
  own : W.ownsRow a.heap.size 3 1 u k (ints xs)
  cur : Cur W B g N
  only : a.grownBy W (some g)
section
variable {a W W' : World} {B g N M k : Nat} {u u' : Value} {xs : List Int}
theorem Ln.start (h : Cur a B g N) : Ln a B g N a (.slice none 0 0) 0 [] := ⟨World.ownsRow_nil _ _ _ _, h, World.grownBy.refl _ _⟩
theorem Ln.ask (h : Ln a B g N W u k xs) (hlt : g < a.heap.size) (hc : Cur W' B g M) (hg : W.grownBy W' (some g)) : Ln a B g M W' u k xs := ⟨own_ask h.own hlt hg, hc, grow_trans h.only hg⟩
theorem Ln.alloc (h : Ln a B g N W u k xs) (o : Obj) : Ln a B g N (W.alloc o) u k xs := ⟨h.own.alloc o, h.cur.alloc o, only_alloc h.only o⟩
theorem Ln.len (h : Ln a B g N W u k xs) : xs.length = k := by have := h.own.1; rw [ints_length] at this; omega
theorem Ln.le (h : Ln a B g N W u k xs) (hN : N ≤ M) : Ln a B g M W u k xs := ⟨h.own, h.cur.le hN, h.only⟩
theorem Ln.form (h : Ln a B g N W u k xs) : ∃ A c, u = .slice A k c := by obtain ⟨_, A, c, e, _⟩ := Rd.of_own h.own; exact ⟨A, c, e⟩
theorem Ln.app (h : Ln a B g N W u k xs) {x : Int} (o : Obj) (ho : W'.ownsRow a.heap.size 3 1 u' (k + 1) (ints (xs ++ [x]))) (hlt : g < a.heap.size) (hg : (W.alloc o).grownBy W' u.ownBlock) : Ln a B g N W' u' (k + 1) (xs ++ [x]) :=
  ⟨ho, (h.cur.alloc o).grown hg (fun j hj => by have := (h.own.lt j hj).1; omega), only_grown (only_alloc h.only o) hg (fun j hj => .inr (h.own.lt j hj).1)⟩
end
end Go.Proofs.YtamehlafmfmgmaaDoor
