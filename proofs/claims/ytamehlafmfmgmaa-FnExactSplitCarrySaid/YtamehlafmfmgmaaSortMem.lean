/- Carries in an owned slice, read and put one by one. Condition: what the slice holds. -/
import Derived.Test.YtamehlafmfmgmaaSymLaws
import Derived.Test.YtamehlafmfmgmaaCarryS
namespace Go.Proofs.Ytamehlafmfmgmaa
open Go.RowKit

theorem grown_drewN {a w : World} {row : Option Nat} (h : a.grownBy w row) (n : Nat) : a.grownBy (w.drewN n) row := ⟨h.os, h.tape, h.output, h.size, h.block⟩
/-- The slice at block g holds the carries l, all valid, and nothing but block g has changed since w0. -/
structure Cs (w0 w : World) (lo g cap n : Nat) (l : List Car) : Prop where
  len : l.length = n
  ok : AllOk l
  own : w.ownsRow lo 52 4 (.slice (some ⟨g, 0, none⟩) n cap) n (ints (flat l))
  only : w0.grownBy w (some g)
section
variable {w0 w w' : World} {lo g cap n i j : Nat} {l : List Car} {p q f t : Int}
theorem Cs.start (hl : l.length = n) (ho : AllOk l) (h : w.ownsRow lo 52 4 (.slice (some ⟨g, 0, none⟩) n cap) n (ints (flat l))) : Cs w w lo g cap n l := ⟨hl, ho, h, World.grownBy.refl _ _⟩
theorem Cs.cells (h : Cs w0 w lo g cap n l) (hi : i < n) (e : l.getD i c0 = (p, q, f, t)) : w.cell? ⟨g, i * 4, none⟩ = some (.int .i64 p) ∧ w.cell? ⟨g, i * 4 + 1, none⟩ = some (.int .i64 q) ∧ w.cell? ⟨g, i * 4 + 2, none⟩ = some (.int .i64 f) ∧ w.cell? ⟨g, i * 4 + 3, none⟩ = some (.int .i64 t) := by
  have hl := h.len
  have a := flat_at l i (by omega)
  rw [e] at a
  have hf := flat_length l
  obtain ⟨a0, a1, a2, a3⟩ := a
  refine ⟨?_, ?_, ?_, ?_⟩
  · rw [h.own.cellAt _ (by omega), ints_get _ _ (by omega), a0]
  · rw [h.own.cellAt _ (by omega), ints_get _ _ (by omega), a1]
  · rw [h.own.cellAt _ (by omega), ints_get _ _ (by omega), a2]
  · rw [h.own.cellAt _ (by omega), ints_get _ _ (by omega), a3]
theorem Cs.free (h : Cs w0 w lo g cap n l) (k : Nat) : w.frozen? ⟨g, k, none⟩ = false := h.own.frozenAt k
def put4 (w : World) (g i : Nat) (c : Car) : World := (((w.setCell ⟨g, i * 4, none⟩ (.int .i64 c.1)).setCell ⟨g, i * 4 + 1, none⟩ (.int .i64 c.2.1)).setCell ⟨g, i * 4 + 2, none⟩ (.int .i64 c.2.2.1)).setCell ⟨g, i * 4 + 3, none⟩ (.int .i64 c.2.2.2)
theorem put_own {c : Car} (h : w.ownsRow lo 52 4 (.slice (some ⟨g, 0, none⟩) n cap) n (ints (flat l))) : (put4 w g i c).ownsRow lo 52 4 (.slice (some ⟨g, 0, none⟩) n cap) n (ints (flat (l.set i c))) ∧ w.grownBy (put4 w g i c) (some g) := by
  have h1 := h.stored (i * 4) (.int .i64 c.1)
  have h2 := h1.1.stored (i * 4 + 1) (.int .i64 c.2.1)
  have h3 := h2.1.stored (i * 4 + 2) (.int .i64 c.2.2.1)
  have h4 := h3.1.stored (i * 4 + 3) (.int .i64 c.2.2.2)
  refine ⟨?_, grow_trans (grow_trans (grow_trans h1.2 h2.2) h3.2) h4.2⟩
  have := h4.1
  rw [ints_set, ints_set, ints_set, ints_set, flat_set] at this
  exact this
theorem Cs.exch (h : Cs w0 w lo g cap n l) (hi : i < n) (hj : j < n) {p' q' f' t' : Int} (ei : l.getD i c0 = (p, q, f, t)) (ej : l.getD j c0 = (p', q', f', t')) (hw : w' = put4 (put4 w g i (p', q', f', t')) g j (p, q, f, t)) : Cs w0 w' lo g cap n (Ytamehlafmfmgmaa.exch l i j) := by
  subst hw
  obtain ⟨o1, g1⟩ := put_own (i := i) (c := (p', q', f', t')) h.own
  obtain ⟨o2, g2⟩ := put_own (i := j) (c := (p, q, f, t)) o1
  refine ⟨by rw [exch_length]; exact h.len, allOk_exch h.ok (by rw [h.len]; exact hi) (by rw [h.len]; exact hj), ?_, grow_trans h.only (grow_trans g1 g2)⟩
  rw [Ytamehlafmfmgmaa.exch, ei, ej]
  exact o2
theorem Cs.below (h : Cs w0 w lo g cap n l) (hb : Below w.heap.size w w') : Cs w0 w' lo g cap n l := ⟨h.len, h.ok, own_below h.own hb (Nat.le_refl _), grow_trans h.only ⟨hb.os, hb.tape, hb.output, hb.size, fun k hk _ => hb.block k hk⟩⟩
theorem Cs.drewN (h : Cs w0 w lo g cap n l) (k : Nat) : Cs w0 (w.drewN k) lo g cap n l := ⟨h.len, h.ok, h.own, grown_drewN h.only k⟩
theorem Cs.drew (h : Cs w0 w lo g cap n l) : Cs w0 w.drew lo g cap n l := ⟨h.len, h.ok, h.own, grown_drewN h.only 1⟩
theorem Cs.next {w1 : World} {l' : List Car} (h : Cs w0 w lo g cap n l) (h2 : Cs w w1 lo g cap n l') : Cs w0 w1 lo g cap n l' := ⟨h2.len, h2.ok, h2.own, grow_trans h.only h2.only⟩
theorem Cs.lt (h : Cs w0 w lo g cap n l) : g < w.heap.size := (h.own.lt g rfl).2
end
end Go.Proofs.Ytamehlafmfmgmaa
