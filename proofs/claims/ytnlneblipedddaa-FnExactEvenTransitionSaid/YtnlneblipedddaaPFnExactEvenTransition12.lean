/- The laws' helpers on transitions: szTransition looks at the lengths, toTransition copies, eqTransition says true of two of the same numbers, markTransition writes into its memory alone. Conditions: lengths of at most 2^40, and that the slices can be read (or are owned). The laws' marks in a transition's memory, and that they are held there. Condition: an owned transition with short slices in memory of their own. -/
import Derived.Test.YtnlneblipedddaaPFnExactEvenTransition05
import Derived.Test.YtnlneblipedddaaPFnExactEvenTransition11
import Derived.Test.YtnlneblipedddaaPFnExactEvenTransition04
import Derived.Test.YtnlneblipedddaaPFnExactEvenTransition01
import Derived.Deep.RegionHeld3
import Derived.Deep.DeepCutAuto
namespace Go.Proofs.Ytnlneblipedddaa
open Go.RowKit

theorem Own.set {w : World} {lo hi sz n : Nat} {e : TypeId} {v : Value} {xs : List Int} (h : Own w lo hi e sz v n xs) {p : Addr} (hp : p.block < lo) (u : Value) : Own (w.setCell p u) lo hi e sz v n xs :=
  ⟨ownsRow_setCell_below h.1 hp u, h.2⟩
theorem own_lo {w : World} {lo lo2 hi sz n : Nat} {e : TypeId} {v : Value} {xs : List Int} (h : Own w lo hi e sz v n xs) (hl : lo2 ≤ lo) : Own w lo2 hi e sz v n xs := ⟨own_base h.1 hl, h.2⟩
/-- What szTransition says of the lengths. -/
def szT (t : TrN) : Int := if (t.n : Int) + t.m + t.p ≤ 1048576 then (1048576 : Int) - t.n - t.m - t.p else -1
theorem szT_cases (t : TrN) : szT t = -1 ∨ 0 ≤ szT t ∧ t.small := by
  unfold szT TrN.small
  split
  · right; omega
  · left; rfl
def tBlk (A : Option Addr) (n ca : Nat) (C : Option Addr) (m cb : Nat) (c : Int) (D : Option Addr) (p cc : Nat) : Array Value := #[.slice A n ca, .slice C m cb, .int .i64 c, .slice D p cc]
/-- A transition whose three slices are owned, in blocks from lo on and below hi. -/
def OwnT (w : World) (lo hi : Nat) (v : Value) (t : TrN) : Prop :=
  ∃ va vb vc m1 m2, v = .agg #[va, vb, .int .i64 t.c, vc] ∧ lo ≤ m1 ∧ m1 ≤ m2 ∧ m2 ≤ hi ∧ Own w lo m1 75 2 va t.n t.xs ∧ Own w m1 m2 75 2 vb t.m t.ys ∧ Own w m2 hi 3 1 vc t.p t.ps
section
variable {w w' : World} {lo hi lo2 hi2 C : Nat} {v : Value} {t : TrN}
theorem OwnT.below (h : OwnT w lo hi v t) (hb : Below C w w') (hC : w.heap.size ≤ C) : OwnT w' lo hi v t := by
  obtain ⟨va, vb, vc, m1, m2, e, h1, h2, h3, ha, hb', hc⟩ := h
  exact ⟨va, vb, vc, m1, m2, e, h1, h2, h3, ha.below hb hC, hb'.below hb hC, hc.below hb hC⟩
theorem OwnT.rd (h : OwnT w lo hi v t) : RdT w w.heap.size v t := by
  obtain ⟨va, vb, vc, m1, m2, e, h1, h2, h3, ha, hb', hc⟩ := h
  exact ⟨va, vb, vc, e, ha.rd, hb'.rd, hc.rd⟩
end
set_option maxHeartbeats 1000000 in
theorem eqTransition_same (v u : Value) (B : Nat) (t : TrN) (w : World) (hv : RdT w B v t) (hu : RdT w B u t) (hB : B ≤ w.heap.size) (hs : t.small) :
    Calls Try.prog 27 #[v, u] w fun e w' => e = .returned (.bool true) ∧ Below w.heap.size w w' := by
  obtain ⟨A, ca, C, cb, D, cc, rfl, ha, hb, hc⟩ := hv.form
  obtain ⟨A2, ca2, C2, cb2, D2, cc2, rfl, ha2, hb2, hc2⟩ := hu.form
  clear hv hu
  obtain ⟨n, xs, m, ys, c, p, ps⟩ := t
  simp only [TrN.small] at *
  obtain ⟨s1, s2, s3⟩ := hs
  obtain ⟨W1, eW1⟩ : ∃ W1, (w.alloc (.cells #[.slice A n ca, .slice C m cb, .int .i64 c, .slice D p cc] 29)).alloc (.cells #[.slice A2 n ca2, .slice C2 m cb2, .int .i64 c, .slice D2 p cc2] 29) = W1 := ⟨_, rfl⟩
  have HB1 : Below w.heap.size w W1 := by rw [← eW1]; exact below_new (below_new (Below.refl _ _) _) _
  have K0 : Blk W1 w.heap.size 29 #[.slice A n ca, .slice C m cb, .int .i64 c, .slice D p cc] := by rw [← eW1]; exact (Blk.new _ _ _).alloc _
  have K1 : Blk W1 (w.heap.size + 1) 29 #[.slice A2 n ca2, .slice C2 m cb2, .int .i64 c, .slice D2 p cc2] := by rw [← eW1]; exact Blk.new2 _ _ _ _
  have P1 := Lib.hid (fun W (hb : Below w.heap.size w W) => eqSpotS_same (.slice A n ca) (.slice A2 n ca2) n B xs W (ha.below' hb hB) (ha2.below' hb hB) (Nat.le_trans hB hb.size) (by omega))
  have P2 := Lib.hid (fun W (hb' : Below w.heap.size w W) => eqSpotS_same (.slice C m cb) (.slice C2 m cb2) m B ys W (hb.below' hb' hB) (hb2.below' hb' hB) (Nat.le_trans hB hb'.size) (by omega))
  have P3 := Lib.hid (fun W (hb' : Below w.heap.size w W) => eqIntS_same (.slice D p cc) (.slice D2 p cc2) p B ps W (hc.below' hb' hB) (hc2.below' hb' hB) (Nat.le_trans hB hb'.size) (by omega))
  have hcc : (c != c) = false := by simp
  obtain ⟨a0, a1, a2, a3⟩ := K0.c4
  obtain ⟨b0, b1, b2, b3⟩ := K1.c4
  replace K0 := Lib.hid K0
  replace K1 := Lib.hid K1
  replace HB1 := Lib.hid HB1
  clear ha hb hc ha2 hb2 hc2
  go_enter Try.func27, Try.ntmps27
  go_wp2_with fail
  refine (P1.out _ HB1.out).mono ?_
  rintro e w2 ⟨rfl, h2⟩
  replace K0 := Lib.hid (K0.out.on h2)
  replace K1 := Lib.hid (K1.out.on h2)
  replace HB1 := Lib.hid (below_on HB1.out h2)
  clear a0 a1 a2 a3 b0 b1 b2 b3 h2 P1
  obtain ⟨a0, a1, a2, a3⟩ := K0.out.c4
  obtain ⟨b0, b1, b2, b3⟩ := K1.out.c4
  go_wp2_with fail
  refine (P2.out _ HB1.out).mono ?_
  rintro e w3 ⟨rfl, h2⟩
  replace K0 := Lib.hid (K0.out.on h2)
  replace K1 := Lib.hid (K1.out.on h2)
  replace HB1 := Lib.hid (below_on HB1.out h2)
  clear a0 a1 a2 a3 b0 b1 b2 b3 h2 P2
  obtain ⟨a0, a1, a2, a3⟩ := K0.out.c4
  obtain ⟨b0, b1, b2, b3⟩ := K1.out.c4
  go_wp2_with fail
  refine (P3.out _ HB1.out).mono ?_
  rintro e w4 ⟨rfl, h2⟩
  replace HB1 := Lib.hid (below_on HB1.out h2)
  clear a0 a1 a2 a3 b0 b1 b2 b3 h2 P3
  go_wp2_with fail
  go_ret
  exact ⟨rfl, HB1.out⟩

set_option maxHeartbeats 1000000 in
theorem markTransition_any (v : Value) (lo hi : Nat) (t : TrN) (w : World) (hv : OwnT w lo hi v t) (hs : t.small) :
    Calls Try.prog 30 #[v, .int .i64 1] w fun e w' => (∃ r : Int, 0 ≤ r ∧ e = .returned (.int .i64 r)) ∧ Only lo hi w w' := by
  obtain ⟨va, vb, vc, m1, m2, rfl, l1, l2, l3, ha, hb, hc⟩ := hv
  obtain ⟨A, ca, rfl⟩ := ha.rd.form
  obtain ⟨C, cb, rfl⟩ := hb.rd.form
  obtain ⟨D, cc, rfl⟩ := hc.rd.form
  obtain ⟨n, xs, m, ys, c, p, ps⟩ := t
  simp only [TrN.small] at *
  obtain ⟨s1, s2, s3⟩ := hs
  obtain ⟨W1, eW1⟩ : ∃ W1, w.alloc (.cells #[.slice A n ca, .slice C m cb, .int .i64 c, .slice D p cc] 29) = W1 := ⟨_, rfl⟩
  have hb1 : Below w.heap.size w W1 := by rw [← eW1]; exact below_new (Below.refl _ _) _
  have K0 : Blk W1 w.heap.size 29 #[.slice A n ca, .slice C m cb, .int .i64 c, .slice D p cc] := by rw [← eW1]; exact Blk.new _ _ _
  have O0 := Lib.hid (Only.of_below (lo := lo) (hi := hi) hb1)
  replace ha := Lib.hid (ha.below hb1 (Nat.le_refl _))
  replace hb := Lib.hid (hb.below hb1 (Nat.le_refl _))
  replace hc := Lib.hid (hc.below hb1 (Nat.le_refl _))
  have L := Lib.hid (And.intro l1 (And.intro l2 l3))
  obtain ⟨a0, a1, a2, a3⟩ := K0.c4
  have KB := Lib.hid (own_blk_ne ha.out.1 K0 (by decide))
  have KC := Lib.hid (own_blk_ne hb.out.1 K0 (by decide))
  have KD := Lib.hid (own_blk_ne hc.out.1 K0 (by decide))
  replace K0 := Lib.hid K0
  clear hb1 l1 l2 l3
  go_enter Try.func30, Try.ntmps30
  go_wp2_with fail
  refine (markSpotS_any _ n _ _ 1 _ ha.out.1 (by omega) (by omega) (by omega)).mono ?_
  rintro e w2 ⟨rfl, _, g2⟩
  have O2 := O0.out.trans (Only.of_grown g2 (fun k hk => ⟨(ha.out.1.lt k hk).1, by have := ha.out.2 k hk; have := L.out; omega⟩))
  replace hb := Lib.hid (hb.out.other ha.out (.inr (Nat.le_refl _)) g2)
  replace hc := Lib.hid (hc.out.other ha.out (.inr L.out.2.1) g2)
  replace K0 := Lib.hid (K0.out.grown g2 (fun e => KB.out e.symm))
  replace O0 := Lib.hid O2
  clear g2 O2 a0 a1 a2 a3 KB
  obtain ⟨a0, a1, a2, a3⟩ := K0.out.c4
  go_wp2_with fail
  refine (markSpotS_any _ m _ _ _ _ hb.out.1 (by omega) (by omega) (by omega)).mono ?_
  rintro e w3 ⟨rfl, _, g2⟩
  have O2 := O0.out.trans (Only.of_grown g2 (fun k hk => ⟨by have := (hb.out.1.lt k hk).1; have := L.out; omega, by have := hb.out.2 k hk; have := L.out; omega⟩))
  replace hc := Lib.hid (hc.out.other hb.out (.inr (Nat.le_refl _)) g2)
  replace K0 := Lib.hid (K0.out.grown g2 (fun e => KC.out e.symm))
  replace O0 := Lib.hid O2
  clear g2 O2 a0 a1 a2 a3 KC
  obtain ⟨a0, a1, a2, a3⟩ := K0.out.c4
  go_wp2_with fail
  refine (markIntS_any _ p _ _ _ _ hc.out.1 (by omega) (by omega) (by omega)).mono ?_
  rintro e w4 ⟨rfl, _, g2⟩
  have O2 := O0.out.trans (Only.of_grown g2 (fun k hk => ⟨by have := (hc.out.1.lt k hk).1; have := L.out; omega, by have := hc.out.2 k hk; have := L.out; omega⟩))
  replace O0 := Lib.hid O2
  clear g2 O2 a0 a1 a2 a3
  go_wp2_with fail
  go_ret
  exact ⟨⟨_, by omega, rfl⟩, O0.out⟩
end Go.Proofs.Ytnlneblipedddaa

namespace Go.Proofs.Ytnlneblipedddaa
open Go.RowKit

/-- The marked transition, and the number behind the marks. -/
def mrT (t : TrN) : TrN := ⟨t.n, marks (t.n * 2) 1, t.m, marks (t.m * 2) (1 + ((t.n * 2 : Nat) : Int)), t.c, t.p, marks t.p (1 + ((t.n * 2 : Nat) : Int) + ((t.m * 2 : Nat) : Int))⟩
def mkT (t : TrN) : Int := 1 + ((t.n * 2 : Nat) : Int) + ((t.m * 2 : Nat) : Int) + (t.p : Int)
theorem mkT_pos (t : TrN) : 0 ≤ mkT t := by unfold mkT; omega
set_option maxHeartbeats 1000000 in
theorem markTransition_own (v : Value) (lo hi : Nat) (t : TrN) (w : World) (hv : OwnT w lo hi v t) (hs : t.small) :
    Calls Try.prog 30 #[v, .int .i64 1] w fun e w' => e = .returned (.int .i64 (mkT t)) ∧ OwnT w' lo hi v (mrT t) ∧ Only lo hi w w' := by
  obtain ⟨va, vb, vc, m1, m2, rfl, l1, l2, l3, ha, hb, hc⟩ := hv
  obtain ⟨A, ca, rfl⟩ := ha.rd.form
  obtain ⟨C, cb, rfl⟩ := hb.rd.form
  obtain ⟨D, cc, rfl⟩ := hc.rd.form
  obtain ⟨n, xs, m, ys, c, p, ps⟩ := t
  simp only [TrN.small] at *
  obtain ⟨s1, s2, s3⟩ := hs
  obtain ⟨W1, eW1⟩ : ∃ W1, w.alloc (.cells #[.slice A n ca, .slice C m cb, .int .i64 c, .slice D p cc] 29) = W1 := ⟨_, rfl⟩
  have hb1 : Below w.heap.size w W1 := by rw [← eW1]; exact below_new (Below.refl _ _) _
  have K0 : Blk W1 w.heap.size 29 #[.slice A n ca, .slice C m cb, .int .i64 c, .slice D p cc] := by rw [← eW1]; exact Blk.new _ _ _
  have O0 := Lib.hid (Only.of_below (lo := lo) (hi := hi) hb1)
  replace ha := Lib.hid (ha.below hb1 (Nat.le_refl _))
  replace hb := Lib.hid (hb.below hb1 (Nat.le_refl _))
  replace hc := Lib.hid (hc.below hb1 (Nat.le_refl _))
  have L := Lib.hid (And.intro l1 (And.intro l2 l3))
  obtain ⟨a0, a1, a2, a3⟩ := K0.c4
  have KB := Lib.hid (own_blk_ne ha.out.1 K0 (by decide))
  have KC := Lib.hid (own_blk_ne hb.out.1 K0 (by decide))
  have KD := Lib.hid (own_blk_ne hc.out.1 K0 (by decide))
  replace K0 := Lib.hid K0
  clear hb1 l1 l2 l3
  go_enter Try.func30, Try.ntmps30
  go_wp2_with fail
  refine (markSpotS_any _ n _ _ 1 _ ha.out.1 (by omega) (by omega) (by omega)).mono ?_
  rintro e w2 ⟨rfl, o2, g2⟩
  have O2 := O0.out.trans (Only.of_grown g2 (fun k hk => ⟨(ha.out.1.lt k hk).1, by have := ha.out.2 k hk; have := L.out; omega⟩))
  replace hb := Lib.hid (hb.out.other ha.out (.inr (Nat.le_refl _)) g2)
  replace hc := Lib.hid (hc.out.other ha.out (.inr L.out.2.1) g2)
  have hA := Lib.hid (ha.out.after o2)
  replace K0 := Lib.hid (K0.out.grown g2 (fun e => KB.out e.symm))
  replace O0 := Lib.hid O2
  clear g2 O2 a0 a1 a2 a3 KB o2 ha
  obtain ⟨a0, a1, a2, a3⟩ := K0.out.c4
  go_wp2_with fail
  refine (markSpotS_any _ m _ _ _ _ hb.out.1 (by omega) (by omega) (by omega)).mono ?_
  rintro e w3 ⟨rfl, o2, g2⟩
  have O2 := O0.out.trans (Only.of_grown g2 (fun k hk => ⟨by have := (hb.out.1.lt k hk).1; have := L.out; omega, by have := hb.out.2 k hk; have := L.out; omega⟩))
  replace hc := Lib.hid (hc.out.other hb.out (.inr (Nat.le_refl _)) g2)
  replace hA := Lib.hid (hA.out.other hb.out (.inl (Nat.le_refl _)) g2)
  have hB := Lib.hid (hb.out.after o2)
  replace K0 := Lib.hid (K0.out.grown g2 (fun e => KC.out e.symm))
  replace O0 := Lib.hid O2
  clear g2 O2 a0 a1 a2 a3 KC o2 hb
  obtain ⟨a0, a1, a2, a3⟩ := K0.out.c4
  go_wp2_with fail
  refine (markIntS_any _ p _ _ _ _ hc.out.1 (by omega) (by omega) (by omega)).mono ?_
  rintro e w4 ⟨rfl, o2, g2⟩
  have O2 := O0.out.trans (Only.of_grown g2 (fun k hk => ⟨by have := (hc.out.1.lt k hk).1; have := L.out; omega, by have := hc.out.2 k hk; have := L.out; omega⟩))
  replace hA := Lib.hid (hA.out.other hc.out (.inl L.out.2.1) g2)
  replace hB := Lib.hid (hB.out.other hc.out (.inl (Nat.le_refl _)) g2)
  have hC := Lib.hid (hc.out.after o2)
  replace O0 := Lib.hid O2
  clear g2 O2 a0 a1 a2 a3 o2 hc
  go_wp2_with fail
  go_ret
  exact ⟨rfl, ⟨_, _, _, m1, m2, rfl, L.out.1, L.out.2.1, L.out.2.2, hA.out, hB.out, hC.out⟩, O0.out⟩
set_option maxHeartbeats 1000000 in
theorem heldTransition_marks (v : Value) (B : Nat) (t : TrN) (w : World) (hv : RdT w B v (mrT t)) (hB : B ≤ w.heap.size) (hs : t.small) :
    Calls Try.prog 31 #[v, .int .i64 1] w fun e w' => e = .returned (.int .i64 (mkT t)) ∧ Below w.heap.size w w' := by
  obtain ⟨n, xs, m, ys, c, p, ps⟩ := t
  obtain ⟨A, ca, C, cb, D, cc, rfl, ha, hb, hc⟩ := hv.form
  simp only [TrN.small, mrT] at *
  obtain ⟨s1, s2, s3⟩ := hs
  clear hv
  have hb1 := below_new (Below.refl w.heap.size w) (.cells #[.slice A n ca, .slice C m cb, .int .i64 c, .slice D p cc] 29)
  obtain ⟨a0, a1, a2, a3⟩ := (Blk.new w 29 #[.slice A n ca, .slice C m cb, .int .i64 c, .slice D p cc]).c4
  replace ha := Lib.hid (ha.below' hb1 hB)
  replace hb := Lib.hid (hb.below' hb1 hB)
  replace hc := Lib.hid (hc.below' hb1 hB)
  have HB := Lib.hid hb1
  clear hb1
  go_enter Try.func31, Try.ntmps31
  go_wp2_with fail
  refine (heldSpotS_marks _ n _ 1 _ ha.out (by omega) (by omega) (by omega)).mono ?_
  rintro e w2 ⟨rfl, rfl⟩
  go_wp2_with fail
  refine (heldSpotS_marks _ m _ _ _ hb.out (by omega) (by omega) (by omega)).mono ?_
  rintro e w2 ⟨rfl, rfl⟩
  go_wp2_with fail
  refine (heldIntS_marks _ p _ _ _ hc.out (by omega) (by omega) (by omega)).mono ?_
  rintro e w2 ⟨rfl, rfl⟩
  go_wp2_with fail
  go_ret
  exact ⟨rfl, HB.out⟩
end Go.Proofs.Ytnlneblipedddaa
