/- A law's argument that is a Transition, opened. Without conditions. -/
import Derived.Test.YtpikhkdgohapeaaFrameSpot
import Derived.Test.YtpikhkdgohapeaaTransFn
namespace Go.Proofs.Ytpikhkdgohapeaa
open Go.ChangeShapes Go.WideShapes Go.ChangeAt Go.RowKit

/-- The value v is a transition with the numbers t, in blocks below B. -/
def RdT (w : World) (B : Nat) (v : Value) (t : TrN) : Prop :=
  ∃ va vb vc, v = .agg #[va, vb, .int .i64 t.c, vc] ∧ Rd w B 2 va t.n t.xs ∧ Rd w B 2 vb t.m t.ys ∧ Rd w B 1 vc t.p t.ps
def TrN.small (t : TrN) : Prop := t.n ≤ 1048576 ∧ t.m ≤ 1048576 ∧ t.p ≤ 1048576
theorem RdT.form {w : World} {B : Nat} {v : Value} {t : TrN} (h : RdT w B v t) : ∃ A ca C cb D cc, v = .agg #[.slice A t.n ca, .slice C t.m cb, .int .i64 t.c, .slice D t.p cc] ∧
    Rd w B 2 (.slice A t.n ca) t.n t.xs ∧ Rd w B 2 (.slice C t.m cb) t.m t.ys ∧ Rd w B 1 (.slice D t.p cc) t.p t.ps := by
  obtain ⟨va, vb, vc, rfl, ha, hb, hc⟩ := h
  obtain ⟨A, ca, rfl⟩ := ha.form
  obtain ⟨C, cb, rfl⟩ := hb.form
  obtain ⟨D, cc, rfl⟩ := hc.form
  exact ⟨A, ca, C, cb, D, cc, rfl, ha, hb, hc⟩
section
variable {w w' : World} {B C : Nat} {v : Value} {t : TrN}
theorem RdT.below (h : RdT w B v t) (hb : Below B w w') : RdT w' B v t := by
  obtain ⟨va, vb, vc, e, ha, hb', hc⟩ := h
  exact ⟨va, vb, vc, e, ha.below hb, hb'.below hb, hc.below hb⟩
theorem RdT.below' (h : RdT w B v t) (hb : Below C w w') (hC : B ≤ C) : RdT w' B v t := by
  obtain ⟨va, vb, vc, e, ha, hb', hc⟩ := h
  exact ⟨va, vb, vc, e, ha.below' hb hC, hb'.below' hb hC, hc.below' hb hC⟩
theorem RdT.more {B' : Nat} (h : RdT w B v t) (hB : B ≤ B') : RdT w B' v t := by
  obtain ⟨va, vb, vc, e, ha, hb', hc⟩ := h
  exact ⟨va, vb, vc, e, ha.more hB, hb'.more hB, hc.more hB⟩
end
section
variable {H : Type} {enc : TypeId × Value → H}
theorem list4 {α : Type} {l : List α} (h : l.length = 4) : ∃ a b c d, l = [a, b, c, d] := by
  match l, h with
  | [a, b, c, d], _ => exact ⟨a, b, c, d, rfl⟩
set_option maxRecDepth 100000 in
theorem trans_arg {v : Value} {d : DataW H} {ps : List MemPlace} {w : World} {base : Nat} {spare : Nat → Bool} {held : Bool} {r : Reach} {b0 : Nat}
    (hv : Value.okWide Try.prog w r b0 38 v) (h : DataW.Trod enc Try.prog w base spare held 38 v d ps) :
    ∃ t : TrN, RdT w w.heap.size v t ∧ t.n ≤ maxLen ∧ t.m ≤ maxLen ∧ t.p ≤ maxLen := by
  obtain ⟨cs, rfl, hsz⟩ := okWide_struct Try.underlying38 hv
  obtain ⟨fuel, hf⟩ := h
  have hC : Try.prog.cellsOf 38 = 4 := by kernel_rfl
  obtain ⟨c0, c1, c2, c3, hcs⟩ := list4 (show cs.toList.length = 4 by rw [← hC, ← hsz]; simp)
  obtain ⟨xs, m, _, _, _, hx, hfl⟩ := DataW.trod_struct Try.underlying38 (show DataW.trod enc Try.prog w base spare held fuel 38 cs.toList = some _ by simpa [Value.cells] using hf)
  rw [hcs] at hfl
  have hx4 : xs.length = 4 := by rw [hx]; rfl
  obtain ⟨x0, x1, x2, x3, rfl⟩ := list4 hx4
  have k1 : Try.prog.cellsOf 35 = 1 := by kernel_rfl
  have k2 : Try.prog.cellsOf 3 = 1 := by kernel_rfl
  have k3 : Try.prog.cellsOf 36 = 1 := by kernel_rfl
  have f0 : DataW.trod enc Try.prog w base spare held m 35 [c0] = some x0 := by have := hfl 0 _ rfl; simpa [k1] using this
  have f1 : DataW.trod enc Try.prog w base spare held m 35 [c1] = some x1 := by have := hfl 1 _ rfl; simpa [k1] using this
  have f2 : DataW.trod enc Try.prog w base spare held m 3 [c2] = some x2 := by have := hfl 2 _ rfl; simpa [k2] using this
  have f3 : DataW.trod enc Try.prog w base spare held m 36 [c3] = some x3 := by have := hfl 3 _ rfl; simpa [k3] using this
  obtain ⟨n, xa, ha, hna, _⟩ := rd_slice Try.underlying35 (by kernel_rfl) (by omega) intsOnly_Spot f0
  obtain ⟨m', ya, hb, hmb, _⟩ := rd_slice Try.underlying35 (by kernel_rfl) (by omega) intsOnly_Spot f1
  obtain ⟨c, hc, _, _⟩ := DataW.trod_int Try.underlying3 f2
  obtain ⟨p, pa, hp, hpc, _⟩ := rd_slice Try.underlying36 (by kernel_rfl) (by omega) intsOnly_int f3
  have e2 : c2 = .int .i64 c := by simpa using hc
  subst e2
  refine ⟨⟨n, xa, m', ya, c, p, pa⟩, ⟨c0, c1, c3, ?_, ha, hb, hp⟩, hna, hmb, hpc⟩
  rw [← hcs]
end
end Go.Proofs.Ytpikhkdgohapeaa
