/- The laws' helpers on transitions: szTransition looks at the lengths, toTransition copies, eqTransition says true of two of the same numbers, markTransition writes into its memory alone. Conditions: lengths of at most 2^40, and that the slices can be read (or are owned). Contracts of the laws' comparisons of spots and of transitions, where they are the same. Condition: both can be read. -/
import Derived.Test.YtjcepipgjpaclaaPFnSwaps04
import Derived.Test.YtjcepipgjpaclaaPFnSwaps14
import Derived.Test.YtjcepipgjpaclaaPFnSwaps03
import Derived.Test.YtjcepipgjpaclaaPFnSwaps01
import Derived.Deep.RegionHeld3
import Derived.Deep.DeepCutAuto
import Derived.Test.YtjcepipgjpaclaaPFnSwaps10
import Derived.BigQuiet
import Derived.Deep.QuietTactic
namespace Go.Proofs.Ytjcepipgjpaclaa
open Go.RowKit

theorem Own.set {w : World} {lo hi sz n : Nat} {e : TypeId} {v : Value} {xs : List Int} (h : Own w lo hi e sz v n xs) {p : Addr} (hp : p.block < lo) (u : Value) : Own (w.setCell p u) lo hi e sz v n xs :=
  ⟨ownsRow_setCell_below h.1 hp u, h.2⟩
theorem own_lo {w : World} {lo lo2 hi sz n : Nat} {e : TypeId} {v : Value} {xs : List Int} (h : Own w lo hi e sz v n xs) (hl : lo2 ≤ lo) : Own w lo2 hi e sz v n xs := ⟨own_base h.1 hl, h.2⟩
/-- What szTransition says of the lengths. -/
def szT (t : TrN) : Int := if (t.n : Int) + t.m + t.p ≤ 1048576 then (1048576 : Int) - t.n - t.m - t.p else -1
theorem szT_cases (t : TrN) : szT t = -1 ∨ 0 ≤ szT t ∧ t.small := by
  unfold szT TrN.small
  split
  · right; omega
  · left; rfl
def tBlk (A : Option Addr) (n ca : Nat) (C : Option Addr) (m cb : Nat) (c : Int) (D : Option Addr) (p cc : Nat) : Array Value := #[.slice A n ca, .slice C m cb, .int .i64 c, .slice D p cc]
/-- A transition whose three slices are owned, in blocks from lo on and below hi. -/
def OwnT (w : World) (lo hi : Nat) (v : Value) (t : TrN) : Prop :=
  ∃ va vb vc m1 m2, v = .agg #[va, vb, .int .i64 t.c, vc] ∧ lo ≤ m1 ∧ m1 ≤ m2 ∧ m2 ≤ hi ∧ Own w lo m1 45 2 va t.n t.xs ∧ Own w m1 m2 45 2 vb t.m t.ys ∧ Own w m2 hi 3 1 vc t.p t.ps
section
variable {w w' : World} {lo hi lo2 hi2 C : Nat} {v : Value} {t : TrN}
theorem OwnT.below (h : OwnT w lo hi v t) (hb : Below C w w') (hC : w.heap.size ≤ C) : OwnT w' lo hi v t := by
  obtain ⟨va, vb, vc, m1, m2, e, h1, h2, h3, ha, hb', hc⟩ := h
  exact ⟨va, vb, vc, m1, m2, e, h1, h2, h3, ha.below hb hC, hb'.below hb hC, hc.below hb hC⟩
theorem OwnT.rd (h : OwnT w lo hi v t) : RdT w w.heap.size v t := by
  obtain ⟨va, vb, vc, m1, m2, e, h1, h2, h3, ha, hb', hc⟩ := h
  exact ⟨va, vb, vc, e, ha.rd, hb'.rd, hc.rd⟩
end
set_option maxHeartbeats 1000000 in
theorem eqTransition_same (v u : Value) (B : Nat) (t : TrN) (w : World) (hv : RdT w B v t) (hu : RdT w B u t) (hB : B ≤ w.heap.size) (hs : t.small) :
    Calls Try.prog 51 #[v, u] w fun e w' => e = .returned (.bool true) ∧ Below w.heap.size w w' := by
  obtain ⟨A, ca, C, cb, D, cc, rfl, ha, hb, hc⟩ := hv.form
  obtain ⟨A2, ca2, C2, cb2, D2, cc2, rfl, ha2, hb2, hc2⟩ := hu.form
  clear hv hu
  obtain ⟨n, xs, m, ys, c, p, ps⟩ := t
  simp only [TrN.small] at *
  obtain ⟨s1, s2, s3⟩ := hs
  obtain ⟨W1, eW1⟩ : ∃ W1, (w.alloc (.cells #[.slice A n ca, .slice C m cb, .int .i64 c, .slice D p cc] 27)).alloc (.cells #[.slice A2 n ca2, .slice C2 m cb2, .int .i64 c, .slice D2 p cc2] 27) = W1 := ⟨_, rfl⟩
  have HB1 : Below w.heap.size w W1 := by rw [← eW1]; exact below_new (below_new (Below.refl _ _) _) _
  have K0 : Blk W1 w.heap.size 27 #[.slice A n ca, .slice C m cb, .int .i64 c, .slice D p cc] := by rw [← eW1]; exact (Blk.new _ _ _).alloc _
  have K1 : Blk W1 (w.heap.size + 1) 27 #[.slice A2 n ca2, .slice C2 m cb2, .int .i64 c, .slice D2 p cc2] := by rw [← eW1]; exact Blk.new2 _ _ _ _
  have P1 := Lib.hid (fun W (hb : Below w.heap.size w W) => eqSpotS_same (.slice A n ca) (.slice A2 n ca2) n B xs W (ha.below' hb hB) (ha2.below' hb hB) (Nat.le_trans hB hb.size) (by omega))
  have P2 := Lib.hid (fun W (hb' : Below w.heap.size w W) => eqSpotS_same (.slice C m cb) (.slice C2 m cb2) m B ys W (hb.below' hb' hB) (hb2.below' hb' hB) (Nat.le_trans hB hb'.size) (by omega))
  have P3 := Lib.hid (fun W (hb' : Below w.heap.size w W) => eqIntS_same (.slice D p cc) (.slice D2 p cc2) p B ps W (hc.below' hb' hB) (hc2.below' hb' hB) (Nat.le_trans hB hb'.size) (by omega))
  have hcc : (c != c) = false := by simp
  obtain ⟨a0, a1, a2, a3⟩ := K0.c4
  obtain ⟨b0, b1, b2, b3⟩ := K1.c4
  replace K0 := Lib.hid K0
  replace K1 := Lib.hid K1
  replace HB1 := Lib.hid HB1
  clear ha hb hc ha2 hb2 hc2
  go_enter Try.func51, Try.ntmps51
  go_wp2_with fail
  refine (P1.out _ HB1.out).mono ?_
  rintro e w2 ⟨rfl, h2⟩
  replace K0 := Lib.hid (K0.out.on h2)
  replace K1 := Lib.hid (K1.out.on h2)
  replace HB1 := Lib.hid (below_on HB1.out h2)
  clear a0 a1 a2 a3 b0 b1 b2 b3 h2 P1
  obtain ⟨a0, a1, a2, a3⟩ := K0.out.c4
  obtain ⟨b0, b1, b2, b3⟩ := K1.out.c4
  go_wp2_with fail
  refine (P2.out _ HB1.out).mono ?_
  rintro e w3 ⟨rfl, h2⟩
  replace K0 := Lib.hid (K0.out.on h2)
  replace K1 := Lib.hid (K1.out.on h2)
  replace HB1 := Lib.hid (below_on HB1.out h2)
  clear a0 a1 a2 a3 b0 b1 b2 b3 h2 P2
  obtain ⟨a0, a1, a2, a3⟩ := K0.out.c4
  obtain ⟨b0, b1, b2, b3⟩ := K1.out.c4
  go_wp2_with fail
  refine (P3.out _ HB1.out).mono ?_
  rintro e w4 ⟨rfl, h2⟩
  replace HB1 := Lib.hid (below_on HB1.out h2)
  clear a0 a1 a2 a3 b0 b1 b2 b3 h2 P3
  go_wp2_with fail
  go_ret
  exact ⟨rfl, HB1.out⟩

set_option maxHeartbeats 1000000 in
theorem markTransition_any (v : Value) (lo hi : Nat) (t : TrN) (w : World) (hv : OwnT w lo hi v t) (hs : t.small) :
    Calls Try.prog 54 #[v, .int .i64 1] w fun e w' => (∃ r : Int, 0 ≤ r ∧ e = .returned (.int .i64 r)) ∧ Only lo hi w w' := by
  obtain ⟨va, vb, vc, m1, m2, rfl, l1, l2, l3, ha, hb, hc⟩ := hv
  obtain ⟨A, ca, rfl⟩ := ha.rd.form
  obtain ⟨C, cb, rfl⟩ := hb.rd.form
  obtain ⟨D, cc, rfl⟩ := hc.rd.form
  obtain ⟨n, xs, m, ys, c, p, ps⟩ := t
  simp only [TrN.small] at *
  obtain ⟨s1, s2, s3⟩ := hs
  obtain ⟨W1, eW1⟩ : ∃ W1, w.alloc (.cells #[.slice A n ca, .slice C m cb, .int .i64 c, .slice D p cc] 27) = W1 := ⟨_, rfl⟩
  have hb1 : Below w.heap.size w W1 := by rw [← eW1]; exact below_new (Below.refl _ _) _
  have K0 : Blk W1 w.heap.size 27 #[.slice A n ca, .slice C m cb, .int .i64 c, .slice D p cc] := by rw [← eW1]; exact Blk.new _ _ _
  have O0 := Lib.hid (Only.of_below (lo := lo) (hi := hi) hb1)
  replace ha := Lib.hid (ha.below hb1 (Nat.le_refl _))
  replace hb := Lib.hid (hb.below hb1 (Nat.le_refl _))
  replace hc := Lib.hid (hc.below hb1 (Nat.le_refl _))
  have L := Lib.hid (And.intro l1 (And.intro l2 l3))
  obtain ⟨a0, a1, a2, a3⟩ := K0.c4
  have KB := Lib.hid (own_blk_ne ha.out.1 K0 (by decide))
  have KC := Lib.hid (own_blk_ne hb.out.1 K0 (by decide))
  have KD := Lib.hid (own_blk_ne hc.out.1 K0 (by decide))
  replace K0 := Lib.hid K0
  clear hb1 l1 l2 l3
  go_enter Try.func54, Try.ntmps54
  go_wp2_with fail
  refine (markSpotS_any _ n _ _ 1 _ ha.out.1 (by omega) (by omega) (by omega)).mono ?_
  rintro e w2 ⟨rfl, _, g2⟩
  have O2 := O0.out.trans (Only.of_grown g2 (fun k hk => ⟨(ha.out.1.lt k hk).1, by have := ha.out.2 k hk; have := L.out; omega⟩))
  replace hb := Lib.hid (hb.out.other ha.out (.inr (Nat.le_refl _)) g2)
  replace hc := Lib.hid (hc.out.other ha.out (.inr L.out.2.1) g2)
  replace K0 := Lib.hid (K0.out.grown g2 (fun e => KB.out e.symm))
  replace O0 := Lib.hid O2
  clear g2 O2 a0 a1 a2 a3 KB
  obtain ⟨a0, a1, a2, a3⟩ := K0.out.c4
  go_wp2_with fail
  refine (markSpotS_any _ m _ _ _ _ hb.out.1 (by omega) (by omega) (by omega)).mono ?_
  rintro e w3 ⟨rfl, _, g2⟩
  have O2 := O0.out.trans (Only.of_grown g2 (fun k hk => ⟨by have := (hb.out.1.lt k hk).1; have := L.out; omega, by have := hb.out.2 k hk; have := L.out; omega⟩))
  replace hc := Lib.hid (hc.out.other hb.out (.inr (Nat.le_refl _)) g2)
  replace K0 := Lib.hid (K0.out.grown g2 (fun e => KC.out e.symm))
  replace O0 := Lib.hid O2
  clear g2 O2 a0 a1 a2 a3 KC
  obtain ⟨a0, a1, a2, a3⟩ := K0.out.c4
  go_wp2_with fail
  refine (markIntS_any _ p _ _ _ _ hc.out.1 (by omega) (by omega) (by omega)).mono ?_
  rintro e w4 ⟨rfl, _, g2⟩
  have O2 := O0.out.trans (Only.of_grown g2 (fun k hk => ⟨by have := (hc.out.1.lt k hk).1; have := L.out; omega, by have := hc.out.2 k hk; have := L.out; omega⟩))
  replace O0 := Lib.hid O2
  clear g2 O2 a0 a1 a2 a3
  go_wp2_with fail
  go_ret
  exact ⟨⟨_, by omega, rfl⟩, O0.out⟩
end Go.Proofs.Ytjcepipgjpaclaa

namespace Go.Proofs.Ytjcepipgjpaclaa
open Go.RowKit

theorem neq_spots_same (x y : Int) : ∀ w, (binOp .neq 45 (Value.agg #[Value.int .i64 x, Value.int .i64 y]) (Value.agg #[Value.int .i64 x, Value.int .i64 y])).run Try.prog w = .ok (.bool false) w := by
  intro w
  go_simp
set_option maxRecDepth 100000 in
set_option maxHeartbeats 800000 in
theorem pSameSpots_same (v u : Value) (n B : Nat) (xs : List Int) (w : World) (hv : Rd w B 2 v n xs) (hu : Rd w B 2 u n xs) (hB : B ≤ w.heap.size) (hn : n ≤ 1099511627776) :
    Calls Try.prog 48 #[v, u] w fun e w' => e = .returned (.bool true) ∧ Below w.heap.size w w' := by
  obtain ⟨A, c, rfl⟩ := hv.form
  obtain ⟨C, d, rfl⟩ := hu.form
  have Hv := Lib.hid hv
  have Hu := Lib.hid hu
  clear hv hu
  have hnn : ((n : Int) != (n : Int)) = false := by simp
  go_enter Try.func48, Try.ntmps48
  go_wp2_with fail
  go_loopw [13] (fun i wr => ∃ k : Nat, k ≤ n ∧ i = .int .i64 k ∧ Below w.heap.size w wr) (fun i _ => n - (intOf i).toNat)
  case atStart => exact ⟨0, Nat.zero_le _, rfl, Below.refl _ _⟩
  case round =>
    obtain ⟨k, hk, rfl, hb⟩ := hrel
    by_cases hlt : k < n
    · obtain ⟨b, off, rfl, hbB, hc⟩ := Hv.out.spot (by omega)
      obtain ⟨b', off', rfl, hbB', hc'⟩ := Hu.out.spot (by omega)
      have c0 := (hb.cell (p := ⟨b, off + k * 2, none⟩) (Nat.lt_of_lt_of_le hbB hB)).trans (hc k hlt).1
      have c1 := (hb.cell (p := ⟨b, off + k * 2 + 1, none⟩) (Nat.lt_of_lt_of_le hbB hB)).trans (hc k hlt).2
      have d0 := (hb.cell (p := ⟨b', off' + k * 2, none⟩) (Nat.lt_of_lt_of_le hbB' hB)).trans (hc' k hlt).1
      have d1 := (hb.cell (p := ⟨b', off' + k * 2 + 1, none⟩) (Nat.lt_of_lt_of_le hbB' hB)).trans (hc' k hlt).2
      obtain ⟨x, ex⟩ : ∃ x, X xs k = x := ⟨_, rfl⟩
      obtain ⟨y, ey⟩ : ∃ y, Y xs k = y := ⟨_, rfl⟩
      rw [ex] at c0 d0
      rw [ey] at c1 d1
      have nq := neq_spots_same x y
      have hk0 : (0 : Int) ≤ (k : Int) := by omega
      have hk1 : (k : Int) < (n : Int) := by omega
      have HB := Lib.hid hb
      clear hc hc' ex ey hb
      go_wp2_with fail
      go_quiet (fail)
      go_wp2_with fail
      go_roundw
      case rel => exact ⟨k + 1, by omega, by go_num, below_drewN HB.out _⟩
      case measure => simp [intOf]; omega
    · have HB := Lib.hid hb
      clear hb
      go_wp2_with fail
      go_ret
      exact ⟨rfl, HB.out⟩
set_option maxRecDepth 100000 in
set_option maxHeartbeats 2000000 in
theorem pSameTransition_same (v u : Value) (B : Nat) (t : TrN) (w : World) (hv : RdT w B v t) (hu : RdT w B u t) (hB : B ≤ w.heap.size) (hs : t.small) :
    Calls Try.prog 37 #[v, u] w fun e w' => e = .returned (.bool true) ∧ Below w.heap.size w w' := by
  obtain ⟨A, ca, C, cb, D, cc, rfl, ha, hb, hc⟩ := hv.form
  obtain ⟨A', ca', C', cb', D', cc', rfl, ha', hb', hc'⟩ := hu.form
  obtain ⟨s1, s2, s3⟩ := hs
  have P1 := Lib.hid (fun W (h : Below w.heap.size w W) => pSameSpots_same _ _ t.n B t.xs W (ha.below' h hB) (ha'.below' h hB) (Nat.le_trans hB h.size) (by omega))
  have P2 := Lib.hid (fun W (h : Below w.heap.size w W) => pSameSpots_same _ _ t.m B t.ys W (hb.below' h hB) (hb'.below' h hB) (Nat.le_trans hB h.size) (by omega))
  have P3 := Lib.hid (fun W (h : Below w.heap.size w W) => sameInts_same _ _ t.p B t.ps W (hc.below' h hB) (hc'.below' h hB) (Nat.le_trans hB h.size) (by omega))
  have K0 := Lib.hid ((Blk.new w 27 #[.slice A t.n ca, .slice C t.m cb, .int .i64 t.c, .slice D t.p cc]).alloc (.cells #[.slice A' t.n ca', .slice C' t.m cb', .int .i64 t.c, .slice D' t.p cc'] 27))
  have K1 := Lib.hid (Blk.new2 w (.cells #[.slice A t.n ca, .slice C t.m cb, .int .i64 t.c, .slice D t.p cc] 27) 27 #[.slice A' t.n ca', .slice C' t.m cb', .int .i64 t.c, .slice D' t.p cc'])
  have HB0 := Lib.hid (below_new (below_new (Below.refl w.heap.size w) (.cells #[.slice A t.n ca, .slice C t.m cb, .int .i64 t.c, .slice D t.p cc] 27)) (.cells #[.slice A' t.n ca', .slice C' t.m cb', .int .i64 t.c, .slice D' t.p cc'] 27))
  have heq : (t.c == t.c) = true := by simp
  obtain ⟨a0, a1, a2, a3⟩ := K0.out.c4
  obtain ⟨b0, b1, b2, b3⟩ := K1.out.c4
  clear ha hb hc ha' hb' hc' hv hu
  go_enter Try.func37, Try.ntmps37
  go_wp2_with fail
  refine (P1.out _ HB0.out).mono ?_
  rintro e w1 ⟨rfl, hb⟩
  replace K0 := Lib.hid (K0.out.on hb)
  replace K1 := Lib.hid (K1.out.on hb)
  replace HB0 := Lib.hid (below_on HB0.out hb)
  clear a0 a1 a2 a3 b0 b1 b2 b3 hb
  obtain ⟨a0, a1, a2, a3⟩ := K0.out.c4
  obtain ⟨b0, b1, b2, b3⟩ := K1.out.c4
  go_wp2_with fail
  refine (P2.out _ HB0.out).mono ?_
  rintro e w2 ⟨rfl, hb⟩
  replace K0 := Lib.hid (K0.out.on hb)
  replace K1 := Lib.hid (K1.out.on hb)
  replace HB0 := Lib.hid (below_on HB0.out hb)
  clear a0 a1 a2 a3 b0 b1 b2 b3 hb
  obtain ⟨a0, a1, a2, a3⟩ := K0.out.c4
  obtain ⟨b0, b1, b2, b3⟩ := K1.out.c4
  go_wp2_with fail
  refine (P3.out _ HB0.out).mono ?_
  rintro e w3 ⟨rfl, hb⟩
  replace HB0 := Lib.hid (below_on HB0.out hb)
  clear a0 a1 a2 a3 b0 b1 b2 b3 hb
  go_wp2_with fail
  go_ret
  exact ⟨rfl, HB0.out⟩
end Go.Proofs.Ytjcepipgjpaclaa
