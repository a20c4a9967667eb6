/- Spots that are drawn. Condition: the source's bytes can be read. -/
import Derived.Test.YtjcepipgjpaclaaPFnConflicts08
namespace Go.Proofs.Ytjcepipgjpaclaa
open Go.RowKit

section
variable {w w' a : World} {B g N n : Nat} {A : Option Addr}
theorem RdB.keep (h : RdB w B A n) (hk : ∀ p : Addr, p.block < B → w'.cell? p = w.cell? p) : RdB w' B A n := by
  intro hn
  obtain ⟨b, off, rfl, hb, hc⟩ := h hn
  refine ⟨b, off, rfl, hb, fun j hj => ?_⟩
  obtain ⟨z, z0, z1, hz⟩ := hc j hj
  exact ⟨z, z0, z1, (hk _ hb).trans hz⟩
theorem Cur.keep (h : Cur w B g N) (hg : w'.heap[g]? = w.heap[g]?) (hk : ∀ p : Addr, p.block < B → w'.cell? p = w.cell? p) : Cur w' B g N := by
  obtain ⟨hBg, A, n, c, i, s, hb, hn, hi, hr⟩ := h
  exact ⟨hBg, A, n, c, i, s, hg.trans hb, hn, hi, hr.keep hk⟩
theorem Cur.alloc (h : Cur w B g N) (o : Obj) : Cur (w.alloc o) B g N :=
  h.keep (Below.heap_alloc w o g h.lt) fun p hp => World.cell?_alloc_lt w o p (Nat.lt_of_lt_of_le hp (Nat.le_trans h.1 (Nat.le_of_lt h.lt)))
theorem Cur.setCell (h : Cur w B g N) {p : Addr} (hp : g < p.block) (u : Value) : Cur (w.setCell p u) B g N :=
  h.keep (Below.heap_setCell w p u g (by omega)) fun q hq => World.cell?_setCell_other w p q u (fun e => by subst e; have := h.1; omega)
theorem Cur.drewN (h : Cur w B g N) (k : Nat) : Cur (w.drewN k) B g N := h
theorem Cur.grown (h : Cur w B g N) {row : Option Nat} (hg : w.grownBy w' row) (hr : ∀ k, row = some k → g < k) : Cur w' B g N :=
  h.keep (hg.block g h.lt (fun e => by have := hr g e.symm; omega)) fun p hp => World.cell?_of_block (hg.block p.block (Nat.lt_of_lt_of_le hp (Nat.le_trans h.1 (Nat.le_of_lt h.lt))) (fun e => by have := hr _ e.symm; have := h.1; omega))
theorem only_alloc {row : Option Nat} (h : a.grownBy w row) (o : Obj) : a.grownBy (w.alloc o) row :=
  ⟨h.os, h.tape, h.output, Nat.le_trans h.size (by simp), fun i hi hne => (Below.heap_alloc w o i (Nat.lt_of_lt_of_le hi h.size)).trans (h.block i hi hne)⟩
theorem only_set {row : Option Nat} (h : a.grownBy w row) {p : Addr} (hp : a.heap.size ≤ p.block) (u : Value) : a.grownBy (w.setCell p u) row :=
  ⟨h.os, h.tape, h.output, by simpa [World.setCell] using h.size, fun i hi hne => (Below.heap_setCell w p u i (by omega)).trans (h.block i hi hne)⟩
theorem only_grown {row : Option Nat} (h : a.grownBy w (some g)) (hg : w.grownBy w' row) (hr : ∀ k, row = some k → k = g ∨ a.heap.size ≤ k) : a.grownBy w' (some g) :=
  ⟨hg.os.trans h.os, hg.tape.trans h.tape, hg.output.trans h.output, Nat.le_trans h.size hg.size, fun i hi hne => (hg.block i (Nat.lt_of_lt_of_le hi h.size) (fun e => by
    rcases hr i e.symm with r | r
    · exact hne (by rw [r])
    · omega)).trans (h.block i hi hne)⟩
theorem Blk.grown' {t : TypeId} {cs : Array Value} {k : Nat} (h : Blk w k t cs) (hg : w.grownBy w' (some g)) (hne : k ≠ g) : Blk w' k t cs := (hg.block k h.lt (fun e => hne (by injection e))).trans h
end
/-- A spot is handed out. -/
def HandsSpot (B g N : Nat) (w : World) (e : Ending) (w' : World) : Prop := ∃ x y : Int, (-2000 ≤ x ∧ x ≤ 2000 ∧ -2000 ≤ y ∧ y ≤ 2000) ∧ e = .returned (Value.agg #[Value.int .i64 x, Value.int .i64 y]) ∧ Cur w' B g N ∧ w.grownBy w' (some g)
end Go.Proofs.Ytjcepipgjpaclaa
