/- The laws' helpers on transitions: szTransition looks at the lengths, toTransition copies, eqTransition says true of two of the same numbers, markTransition writes into its memory alone. Conditions: lengths of at most 2^40, and that the slices can be read (or are owned). -/
import Derived.Test.YtjcepipgjpaclaaGreatPFnWaves04
import Derived.Test.YtjcepipgjpaclaaGreatPFnWaves13
import Derived.Test.YtjcepipgjpaclaaGreatPFnWaves03
import Derived.Test.YtjcepipgjpaclaaGreatPFnWaves01
import Derived.Deep.RegionHeld3
import Derived.Deep.DeepCutAuto
namespace Go.Proofs.YtjcepipgjpaclaaGreat
open Go.RowKit

theorem Own.set {w : World} {lo hi sz n : Nat} {e : TypeId} {v : Value} {xs : List Int} (h : Own w lo hi e sz v n xs) {p : Addr} (hp : p.block < lo) (u : Value) : Own (w.setCell p u) lo hi e sz v n xs :=
  ⟨ownsRow_setCell_below h.1 hp u, h.2⟩
theorem own_lo {w : World} {lo lo2 hi sz n : Nat} {e : TypeId} {v : Value} {xs : List Int} (h : Own w lo hi e sz v n xs) (hl : lo2 ≤ lo) : Own w lo2 hi e sz v n xs := ⟨own_base h.1 hl, h.2⟩
/-- What szTransition says of the lengths. -/
def szT (t : TrN) : Int := if (t.n : Int) + t.m + t.p ≤ 1048576 then (1048576 : Int) - t.n - t.m - t.p else -1
theorem szT_cases (t : TrN) : szT t = -1 ∨ 0 ≤ szT t ∧ t.small := by
  unfold szT TrN.small
  split
  · right; omega
  · left; rfl
def tBlk (A : Option Addr) (n ca : Nat) (C : Option Addr) (m cb : Nat) (c : Int) (D : Option Addr) (p cc : Nat) : Array Value := #[.slice A n ca, .slice C m cb, .int .i64 c, .slice D p cc]
/-- A transition whose three slices are owned, in blocks from lo on and below hi. -/
def OwnT (w : World) (lo hi : Nat) (v : Value) (t : TrN) : Prop :=
  ∃ va vb vc m1 m2, v = .agg #[va, vb, .int .i64 t.c, vc] ∧ lo ≤ m1 ∧ m1 ≤ m2 ∧ m2 ≤ hi ∧ Own w lo m1 68 2 va t.n t.xs ∧ Own w m1 m2 68 2 vb t.m t.ys ∧ Own w m2 hi 3 1 vc t.p t.ps
section
variable {w w' : World} {lo hi lo2 hi2 C : Nat} {v : Value} {t : TrN}
theorem OwnT.below (h : OwnT w lo hi v t) (hb : Below C w w') (hC : w.heap.size ≤ C) : OwnT w' lo hi v t := by
  obtain ⟨va, vb, vc, m1, m2, e, h1, h2, h3, ha, hb', hc⟩ := h
  exact ⟨va, vb, vc, m1, m2, e, h1, h2, h3, ha.below hb hC, hb'.below hb hC, hc.below hb hC⟩
theorem OwnT.rd (h : OwnT w lo hi v t) : RdT w w.heap.size v t := by
  obtain ⟨va, vb, vc, m1, m2, e, h1, h2, h3, ha, hb', hc⟩ := h
  exact ⟨va, vb, vc, e, ha.rd, hb'.rd, hc.rd⟩
end
end Go.Proofs.YtjcepipgjpaclaaGreat
