/- The laws' helpers on transitions: szTransition looks at the lengths, toTransition copies, eqTransition says true of two of the same numbers, markTransition writes into its memory alone. Conditions: lengths of at most 2^40, and that the slices can be read (or are owned). -/
import Derived.Test.YtpikhkdgohapeaaFrameTrans
import Derived.Test.YtpikhkdgohapeaaSpotS
import Derived.Test.YtpikhkdgohapeaaRowsMem
import Derived.Test.YtpikhkdgohapeaaSet
import Derived.Deep.RegionHeld3
import Derived.Deep.DeepCutAuto
namespace Go.Proofs.Ytpikhkdgohapeaa
open Go.RowKit

theorem szIntS_yes (A : Option Addr) (n c : Nat) (l : Int) (w : World) (h : (n : Int) ≤ l) (h2 : l ≤ 1048576) : Calls Try.prog 42 #[.slice A n c, .int .i64 l] w fun e w' => e = .returned (.int .i64 (l - (n : Int))) ∧ w = w' := by
  go_enter Try.func42, Try.ntmps42
  go_wp2
  go_ret
  exact ⟨rfl, rfl⟩
theorem szIntS_no (A : Option Addr) (n c : Nat) (l : Int) (w : World) (h : l < (n : Int)) (h2 : 0 ≤ l) (h3 : n ≤ 9223372036854775807) : Calls Try.prog 42 #[.slice A n c, .int .i64 l] w fun e w' => e = .returned (.int .i64 (-1)) ∧ w = w' := by
  go_enter Try.func42, Try.ntmps42
  go_wp2
  go_ret
  exact ⟨rfl, rfl⟩

theorem Own.set {w : World} {lo hi sz n : Nat} {e : TypeId} {v : Value} {xs : List Int} (h : Own w lo hi e sz v n xs) {p : Addr} (hp : p.block < lo) (u : Value) : Own (w.setCell p u) lo hi e sz v n xs :=
  ⟨ownsRow_setCell_below h.1 hp u, h.2⟩
theorem own_lo {w : World} {lo lo2 hi sz n : Nat} {e : TypeId} {v : Value} {xs : List Int} (h : Own w lo hi e sz v n xs) (hl : lo2 ≤ lo) : Own w lo2 hi e sz v n xs := ⟨own_base h.1 hl, h.2⟩
/-- What szTransition says of the lengths. -/
def szT (t : TrN) : Int := if (t.n : Int) + t.m + t.p ≤ 1048576 then (1048576 : Int) - t.n - t.m - t.p else -1
theorem szT_cases (t : TrN) : szT t = -1 ∨ 0 ≤ szT t ∧ t.small := by
  unfold szT TrN.small
  split
  · right; omega
  · left; rfl
def tBlk (A : Option Addr) (n ca : Nat) (C : Option Addr) (m cb : Nat) (c : Int) (D : Option Addr) (p cc : Nat) : Array Value := #[.slice A n ca, .slice C m cb, .int .i64 c, .slice D p cc]
set_option maxHeartbeats 1000000 in
theorem szTransition_any (v : Value) (B : Nat) (t : TrN) (w : World) (hv : RdT w B v t) (h1 : t.n ≤ maxLen) (h2 : t.m ≤ maxLen) (h3 : t.p ≤ maxLen) :
    Calls Try.prog 14 #[v, .int .i64 1048576] w fun e w' => e = .returned (.int .i64 (szT t)) ∧ Below w.heap.size w w' := by
  obtain ⟨A, ca, C, cb, D, cc, rfl, _, _, _⟩ := hv.form
  clear hv
  unfold maxLen at h1 h2 h3
  obtain ⟨n, en⟩ : ∃ n, t.n = n := ⟨_, rfl⟩
  obtain ⟨m, em⟩ : ∃ m, t.m = m := ⟨_, rfl⟩
  obtain ⟨p, ep⟩ : ∃ p, t.p = p := ⟨_, rfl⟩
  have HF := Lib.hid (show szT t = if (n : Int) + m + p ≤ 1048576 then (1048576 : Int) - n - m - p else -1 by unfold szT; rw [en, em, ep])
  rw [en] at h1
  rw [em] at h2
  rw [ep] at h3
  rw [en, em, ep]
  clear en em ep
  obtain ⟨c, ec⟩ : ∃ c, t.c = c := ⟨_, rfl⟩
  rw [ec]
  clear ec
  have KB := Lib.hid (below_new (Below.refl w.heap.size w) (.cells #[.slice A n ca, .slice C m cb, .int .i64 c, .slice D p cc] 38))
  by_cases k1 : (n : Int) ≤ 1048576
  · by_cases k2 : (m : Int) ≤ 1048576 - n
    · by_cases k3 : (p : Int) ≤ 1048576 - n - m
      · have hf := Lib.hid (HF.out.trans (if_pos (by omega)))
        go_enter Try.func14, Try.ntmps14
        go_wp2_with fail
        refine (szSpotS_yes _ _ _ _ _ k1 (by omega)).mono ?_
        rintro e w' ⟨rfl, rfl⟩
        go_wp2_with fail
        refine (szSpotS_yes _ _ _ _ _ k2 (by omega)).mono ?_
        rintro e w' ⟨rfl, rfl⟩
        go_wp2_with fail
        refine (szIntS_yes _ _ _ _ _ k3 (by omega)).mono ?_
        rintro e w' ⟨rfl, rfl⟩
        go_wp2_with fail
        go_ret
        exact ⟨by rw [hf.out]; rfl, KB.out⟩
      · have hf := Lib.hid (HF.out.trans (if_neg (by omega)))
        go_enter Try.func14, Try.ntmps14
        go_wp2_with fail
        refine (szSpotS_yes _ _ _ _ _ k1 (by omega)).mono ?_
        rintro e w' ⟨rfl, rfl⟩
        go_wp2_with fail
        refine (szSpotS_yes _ _ _ _ _ k2 (by omega)).mono ?_
        rintro e w' ⟨rfl, rfl⟩
        go_wp2_with fail
        refine (szIntS_no _ _ _ _ _ (by omega) (by omega) (by omega)).mono ?_
        rintro e w' ⟨rfl, rfl⟩
        go_wp2_with fail
        go_ret
        exact ⟨by rw [hf.out]; rfl, KB.out⟩
    · have hf := Lib.hid (HF.out.trans (if_neg (by omega)))
      go_enter Try.func14, Try.ntmps14
      go_wp2_with fail
      refine (szSpotS_yes _ _ _ _ _ k1 (by omega)).mono ?_
      rintro e w' ⟨rfl, rfl⟩
      go_wp2_with fail
      refine (szSpotS_no _ _ _ _ _ (by omega) (by omega) (by omega)).mono ?_
      rintro e w' ⟨rfl, rfl⟩
      go_wp2_with fail
      go_ret
      exact ⟨by rw [hf.out]; rfl, KB.out⟩
  · have hf := Lib.hid (HF.out.trans (if_neg (by omega)))
    go_enter Try.func14, Try.ntmps14
    go_wp2_with fail
    refine (szSpotS_no _ _ _ _ _ (by omega) (by omega) (by omega)).mono ?_
    rintro e w' ⟨rfl, rfl⟩
    go_wp2_with fail
    go_ret
    exact ⟨by rw [hf.out]; rfl, KB.out⟩

/-- A transition whose three slices are owned, in blocks from lo on and below hi. -/
def OwnT (w : World) (lo hi : Nat) (v : Value) (t : TrN) : Prop :=
  ∃ va vb vc m1 m2, v = .agg #[va, vb, .int .i64 t.c, vc] ∧ lo ≤ m1 ∧ m1 ≤ m2 ∧ m2 ≤ hi ∧ Own w lo m1 28 2 va t.n t.xs ∧ Own w m1 m2 28 2 vb t.m t.ys ∧ Own w m2 hi 3 1 vc t.p t.ps
section
variable {w w' : World} {lo hi lo2 hi2 C : Nat} {v : Value} {t : TrN}
theorem OwnT.below (h : OwnT w lo hi v t) (hb : Below C w w') (hC : w.heap.size ≤ C) : OwnT w' lo hi v t := by
  obtain ⟨va, vb, vc, m1, m2, e, h1, h2, h3, ha, hb', hc⟩ := h
  exact ⟨va, vb, vc, m1, m2, e, h1, h2, h3, ha.below hb hC, hb'.below hb hC, hc.below hb hC⟩
theorem OwnT.rd (h : OwnT w lo hi v t) : RdT w w.heap.size v t := by
  obtain ⟨va, vb, vc, m1, m2, e, h1, h2, h3, ha, hb', hc⟩ := h
  exact ⟨va, vb, vc, e, ha.rd, hb'.rd, hc.rd⟩
end
set_option maxHeartbeats 1000000 in
theorem toTransition_any (v : Value) (B : Nat) (t : TrN) (w : World) (hv : RdT w B v t) (hB : B ≤ w.heap.size) (hs : t.small) :
    Calls Try.prog 16 #[v] w fun e w' => ∃ u, e = .returned u ∧ OwnT w' w.heap.size w'.heap.size u t ∧ Below w.heap.size w w' := by
  obtain ⟨A, ca, C, cb, D, cc, rfl, ha, hb, hc⟩ := hv.form
  clear hv
  obtain ⟨n, xs, m, ys, c, p, ps⟩ := t
  simp only [TrN.small] at *
  obtain ⟨s1, s2, s3⟩ := hs
  have Hb := Lib.hid hb
  have Hc := Lib.hid hc
  obtain ⟨W1, eW1⟩ : ∃ W1, ((w.alloc (.cells #[.slice A n ca, .slice C m cb, .int .i64 c, .slice D p cc] 38)).alloc (.cells #[.slice none 0 0, .slice none 0 0, .int .i64 0, .slice none 0 0] 43)).alloc (.cells #[.slice none 0 0, .slice none 0 0, .int .i64 0, .slice none 0 0] 43) = W1 := ⟨_, rfl⟩
  have hsz : W1.heap.size = w.heap.size + 3 := by rw [← eW1]; simp
  have HB1 : Below w.heap.size w W1 := by rw [← eW1]; exact below_new (below_new (below_new (Below.refl _ _) _) _) _
  have K0 : Blk W1 w.heap.size 38 #[.slice A n ca, .slice C m cb, .int .i64 c, .slice D p cc] := by rw [← eW1]; exact ((Blk.new _ _ _).alloc _).alloc _
  have K1 : Blk W1 (w.heap.size + 1) 43 #[.slice none 0 0, .slice none 0 0, .int .i64 0, .slice none 0 0] := by rw [← eW1]; exact (Blk.new2 _ _ _ _).alloc _
  have K2 : Blk W1 (w.heap.size + 1 + 1) 43 #[.slice none 0 0, .slice none 0 0, .int .i64 0, .slice none 0 0] := by rw [← eW1]; exact Blk.new3 _ _ _ _ _
  have P1 := Lib.hid (toSpotS_any (.slice A n ca) n B xs W1 (ha.below' HB1 hB) (Nat.le_trans hB HB1.size) (by omega))
  obtain ⟨a0, a1, a2, a3⟩ := K0.c4
  replace K0 := Lib.hid K0
  replace K1 := Lib.hid K1
  replace K2 := Lib.hid K2
  replace HB1 := Lib.hid HB1
  have Z1 := Lib.hid hsz
  clear ha hb hc hsz
  go_enter Try.func16, Try.ntmps16
  go_wp2_with fail
  refine P1.out.mono ?_
  rintro e w2 ⟨_, rfl, o1, b1⟩
  obtain ⟨A1, c1', rfl⟩ := (Rd.of_own o1).form
  clear P1 a0 a1 a2 a3
  have L0 := K0.out.on b1
  have L1 := K1.out.on b1
  have L2 := K2.out.on b1
  have hb2 := below_on HB1.out b1
  have hz2 := b1.size
  have q1 := Own.of o1
  obtain ⟨n0, n1, n2, n3⟩ := L2.c4
  have f0 := L2.frozen 0
  obtain ⟨W3, eW3⟩ : ∃ W3, w2.setCell ⟨w.heap.size + 1 + 1, 0, none⟩ (.slice A1 n c1') = W3 := ⟨_, rfl⟩
  have M2 : Blk W3 (w.heap.size + 1 + 1) 43 #[.slice A1 n c1', .slice none 0 0, .int .i64 0, .slice none 0 0] := by rw [← eW3]; exact L2.set_ 0 (.slice A1 n c1')
  have M0 : Blk W3 w.heap.size 38 #[.slice A n ca, .slice C m cb, .int .i64 c, .slice D p cc] := by rw [← eW3]; exact L0.far (by show w.heap.size ≠ w.heap.size + 1 + 1; omega) (.slice A1 n c1')
  have M1 : Blk W3 (w.heap.size + 1) 43 #[.slice none 0 0, .slice none 0 0, .int .i64 0, .slice none 0 0] := by rw [← eW3]; exact L1.far (by show w.heap.size + 1 ≠ w.heap.size + 1 + 1; omega) (.slice A1 n c1')
  have hb3 : Below w.heap.size w W3 := by rw [← eW3]; exact hb2.setCell (by show w.heap.size ≤ w.heap.size + 1 + 1; omega) _
  have z3 : W3.heap.size = w2.heap.size := by rw [← eW3]; simp
  have q3 : Own W3 W1.heap.size w2.heap.size 28 2 (.slice A1 n c1') n xs := by
    rw [← eW3]
    exact ⟨ownsRow_setCell_below q1.1 (by rw [Z1.out]; show w.heap.size + 1 + 1 < _; omega) _, q1.2⟩
  obtain ⟨g0, g1, g2, g3⟩ := M0.c4
  have P2 := Lib.hid (toSpotS_any (.slice C m cb) m B ys W3 (Hb.out.below' hb3 hB) (Nat.le_trans hB hb3.size) (by omega))
  have zz : w.heap.size + 3 ≤ w2.heap.size := by rw [← Z1.out]; exact hz2
  replace K0 := Lib.hid M0
  replace K1 := Lib.hid M1
  replace K2 := Lib.hid M2
  replace HB1 := Lib.hid hb3
  have Q1 := Lib.hid q3
  have Z3 := Lib.hid z3
  have ZZ := Lib.hid zz
  clear L0 L1 L2 hb2 hz2 q1 o1 M0 M1 M2 hb3 q3 z3 zz b1
  go_wp2_with fail
  refine P2.out.mono ?_
  rintro e w4 ⟨_, rfl, o2, b2⟩
  obtain ⟨A2, c2', rfl⟩ := (Rd.of_own o2).form
  clear P2 n0 n1 n2 n3 f0 g0 g1 g2 g3 eW3
  have L0 := K0.out.on b2
  have L1 := K1.out.on b2
  have L2 := K2.out.on b2
  have hb4 := below_on HB1.out b2
  have hz4 := b2.size
  have q1 := Q1.out.below b2 (Nat.le_refl _)
  have q2 := Own.of o2
  obtain ⟨n0, n1, n2, n3⟩ := L2.c4
  have f1 := L2.frozen 1
  obtain ⟨W5, eW5⟩ : ∃ W5, w4.setCell ⟨w.heap.size + 1 + 1, 1, none⟩ (.slice A2 m c2') = W5 := ⟨_, rfl⟩
  have M2 : Blk W5 (w.heap.size + 1 + 1) 43 #[.slice A1 n c1', .slice A2 m c2', .int .i64 0, .slice none 0 0] := by rw [← eW5]; exact L2.set_ 1 (.slice A2 m c2')
  have M0 : Blk W5 w.heap.size 38 #[.slice A n ca, .slice C m cb, .int .i64 c, .slice D p cc] := by rw [← eW5]; exact L0.far (by show w.heap.size ≠ w.heap.size + 1 + 1; omega) (.slice A2 m c2')
  have M1 : Blk W5 (w.heap.size + 1) 43 #[.slice none 0 0, .slice none 0 0, .int .i64 0, .slice none 0 0] := by rw [← eW5]; exact L1.far (by show w.heap.size + 1 ≠ w.heap.size + 1 + 1; omega) (.slice A2 m c2')
  have hb5 : Below w.heap.size w W5 := by rw [← eW5]; exact hb4.setCell (by show w.heap.size ≤ w.heap.size + 1 + 1; omega) _
  have z5 : W5.heap.size = w4.heap.size := by rw [← eW5]; simp
  have q3 : Own W5 W1.heap.size w2.heap.size 28 2 (.slice A1 n c1') n xs := by
    rw [← eW5]
    exact ⟨ownsRow_setCell_below q1.1 (by rw [Z1.out]; show w.heap.size + 1 + 1 < _; omega) _, q1.2⟩
  have q4 : Own W5 w2.heap.size w4.heap.size 28 2 (.slice A2 m c2') m ys := by
    rw [← eW5, ← Z3.out]
    exact ⟨ownsRow_setCell_below q2.1 (by rw [Z3.out]; have := ZZ.out; show w.heap.size + 1 + 1 < _; omega) _, q2.2⟩
  have z45 : w2.heap.size ≤ w4.heap.size := by rw [← Z3.out]; exact hz4
  -- the counts
  obtain ⟨W6, eW6⟩ : ∃ W6, W5.setCell ⟨w.heap.size + 1 + 1, 2, none⟩ (.int .i64 c) = W6 := ⟨_, rfl⟩
  have N2 : Blk W6 (w.heap.size + 1 + 1) 43 #[.slice A1 n c1', .slice A2 m c2', .int .i64 c, .slice none 0 0] := by rw [← eW6]; exact M2.set_ 2 _
  have N0 : Blk W6 w.heap.size 38 #[.slice A n ca, .slice C m cb, .int .i64 c, .slice D p cc] := by rw [← eW6]; exact M0.far (by show w.heap.size ≠ w.heap.size + 1 + 1; omega) _
  have N1 : Blk W6 (w.heap.size + 1) 43 #[.slice none 0 0, .slice none 0 0, .int .i64 0, .slice none 0 0] := by rw [← eW6]; exact M1.far (by show w.heap.size + 1 ≠ w.heap.size + 1 + 1; omega) _
  have hb6 : Below w.heap.size w W6 := by rw [← eW6]; exact hb5.setCell (by show w.heap.size ≤ w.heap.size + 1 + 1; omega) _
  have z6 : W6.heap.size = w4.heap.size := by rw [← eW6, ← z5]; simp
  have q5 : Own W6 W1.heap.size w2.heap.size 28 2 (.slice A1 n c1') n xs := by
    rw [← eW6]
    exact ⟨ownsRow_setCell_below q3.1 (by rw [Z1.out]; show w.heap.size + 1 + 1 < _; omega) _, q3.2⟩
  have q6 : Own W6 w2.heap.size w4.heap.size 28 2 (.slice A2 m c2') m ys := by
    rw [← eW6]
    exact ⟨ownsRow_setCell_below q4.1 (by have := ZZ.out; show w.heap.size + 1 + 1 < _; omega) _, q4.2⟩
  obtain ⟨h0, h1, h2, h3⟩ := M2.c4
  obtain ⟨k0, k1, k2, k3⟩ := M0.c4
  obtain ⟨g0, g1, g2, g3⟩ := N0.c4
  have f2 := M2.frozen 2
  have P3 := Lib.hid (toIntS_any (.slice D p cc) p B ps W6 (Hc.out.below' hb6 hB) (Nat.le_trans hB hb6.size) (by omega))
  replace K0 := Lib.hid N0
  replace K1 := Lib.hid N1
  replace K2 := Lib.hid N2
  replace HB1 := Lib.hid hb6
  replace Q1 := Lib.hid q5
  have Q2 := Lib.hid q6
  have Z6 := Lib.hid z6
  have Z45 := Lib.hid z45
  clear L0 L1 L2 hb4 hz4 q1 q2 o2 M0 M1 M2 hb5 q3 q4 z5 b2 z45 N0 N1 N2 hb6 z6 q5 q6
  go_wp2_with fail
  refine P3.out.mono ?_
  rintro e w7 ⟨_, rfl, o3, b3⟩
  obtain ⟨A3, c3', rfl⟩ := (Rd.of_own o3).form
  clear P3 n0 n1 n2 n3 f1 f2 g0 g1 g2 g3 h0 h1 h2 h3 k0 k1 k2 k3 eW5 eW6
  have L1 := K1.out.on b3
  have L2 := K2.out.on b3
  have hb7 := below_on HB1.out b3
  have hz7 := b3.size
  have q1 := Q1.out.below b3 (Nat.le_refl _)
  have q2 := Q2.out.below b3 (Nat.le_refl _)
  have q3 := Own.of o3
  rw [Z6.out] at q3 hz7
  obtain ⟨n0, n1, n2, n3⟩ := L2.c4
  have f3 := L2.frozen 3
  obtain ⟨W8, eW8⟩ : ∃ W8, w7.setCell ⟨w.heap.size + 1 + 1, 3, none⟩ (.slice A3 p c3') = W8 := ⟨_, rfl⟩
  have M2 : Blk W8 (w.heap.size + 1 + 1) 43 #[.slice A1 n c1', .slice A2 m c2', .int .i64 c, .slice A3 p c3'] := by rw [← eW8]; exact L2.set_ 3 (.slice A3 p c3')
  have M1 : Blk W8 (w.heap.size + 1) 43 #[.slice none 0 0, .slice none 0 0, .int .i64 0, .slice none 0 0] := by rw [← eW8]; exact L1.far (by show w.heap.size + 1 ≠ w.heap.size + 1 + 1; omega) (.slice A3 p c3')
  have hb8 : Below w.heap.size w W8 := by rw [← eW8]; exact hb7.setCell (by show w.heap.size ≤ w.heap.size + 1 + 1; omega) _
  have z8 : W8.heap.size = w7.heap.size := by rw [← eW8]; simp
  have hlt : ∀ {g : Nat}, g < w.heap.size + 3 → g < W1.heap.size ∧ g < w2.heap.size ∧ g < w4.heap.size := by
    intro g hg; have := Z1.out; have := ZZ.out; have := Z45.out; omega
  have r1 : Own W8 W1.heap.size w2.heap.size 28 2 (.slice A1 n c1') n xs := by
    rw [← eW8]; exact ⟨ownsRow_setCell_below q1.1 (hlt (by show w.heap.size + 1 + 1 < _; omega)).1 _, q1.2⟩
  have r2 : Own W8 w2.heap.size w4.heap.size 28 2 (.slice A2 m c2') m ys := by
    rw [← eW8]; exact ⟨ownsRow_setCell_below q2.1 (hlt (by show w.heap.size + 1 + 1 < _; omega)).2.1 _, q2.2⟩
  have r3 : Own W8 w4.heap.size w7.heap.size 3 1 (.slice A3 p c3') p ps := by
    rw [← eW8]; exact ⟨ownsRow_setCell_below q3.1 (hlt (by show w.heap.size + 1 + 1 < _; omega)).2.2 _, q3.2⟩
  -- the result's cells
  obtain ⟨h0, h1, h2, h3⟩ := M2.c4
  obtain ⟨k0, k1, k2, k3⟩ := M1.c4
  have c0 := M1.frozen 0
  have c1 := M1.frozen 1
  have c2 := M1.frozen 2
  have c3 := M1.frozen 3
  have HR := Lib.hid (And.intro r1 (And.intro r2 r3))
  have HB8 := Lib.hid hb8
  have HM := Lib.hid M1
  have HZ := Lib.hid (And.intro hz7 z8)
  clear L1 L2 hb7 hz7 q1 q2 q3 o3 M1 M2 hb8 z8 r1 r2 r3 b3 hlt
  go_wp2_with fail
  obtain ⟨W9, eW9⟩ : ∃ W9, (((W8.setCell ⟨w.heap.size + 1, 0, none⟩ (.slice A1 n c1')).setCell ⟨w.heap.size + 1, 1, none⟩ (.slice A2 m c2')).setCell ⟨w.heap.size + 1, 2, none⟩ (.int .i64 c)).setCell ⟨w.heap.size + 1, 3, none⟩ (.slice A3 p c3') = W9 := ⟨_, rfl⟩
  have M : Blk W9 (w.heap.size + 1) 43 #[.slice A1 n c1', .slice A2 m c2', .int .i64 c, .slice A3 p c3'] := by
    rw [← eW9]
    exact ((((HM.out.set_ 0 _).set_ 1 _).set_ 2 _).set_ 3 _)
  have hb9 : Below w.heap.size w W9 := by
    rw [← eW9]
    exact (((HB8.out.setCell (by show w.heap.size ≤ w.heap.size + 1; omega) _).setCell (by show w.heap.size ≤ w.heap.size + 1; omega) _).setCell (by show w.heap.size ≤ w.heap.size + 1; omega) _).setCell (by show w.heap.size ≤ w.heap.size + 1; omega) _
  have z9 : W9.heap.size = w7.heap.size := by rw [← eW9, ← HZ.out.2]; simp
  have hlt : w.heap.size + 1 < W1.heap.size ∧ w.heap.size + 1 < w2.heap.size ∧ w.heap.size + 1 < w4.heap.size := by
    have := Z1.out; have := ZZ.out; have := Z45.out; omega
  have r1 : Own W9 W1.heap.size w2.heap.size 28 2 (.slice A1 n c1') n xs := by
    rw [← eW9]; exact (((HR.out.1.set hlt.1 _).set hlt.1 _).set hlt.1 _).set hlt.1 _
  have r2 : Own W9 w2.heap.size w4.heap.size 28 2 (.slice A2 m c2') m ys := by
    rw [← eW9]; exact (((HR.out.2.1.set hlt.2.1 _).set hlt.2.1 _).set hlt.2.1 _).set hlt.2.1 _
  have r3 : Own W9 w4.heap.size w7.heap.size 3 1 (.slice A3 p c3') p ps := by
    rw [← eW9]; exact (((HR.out.2.2.set hlt.2.2 _).set hlt.2.2 _).set hlt.2.2 _).set hlt.2.2 _
  have zw : w.heap.size ≤ W1.heap.size := by have := Z1.out; omega
  rw [eW9]
  obtain ⟨m0, m1, m2, m3⟩ := M.c4
  exact bodyPost_ret (v := .agg #[.slice A1 n c1', .slice A2 m c2', .int .i64 c, .slice A3 p c3']) (by simp [results, Try.results16, go_sem, m0, m1, m2, m3]) rfl
    ⟨_, rfl, ⟨_, _, _, w2.heap.size, w4.heap.size, rfl, by have := ZZ.out; omega, Z45.out, by rw [z9]; exact HZ.out.1, own_lo r1 zw, r2, z9 ▸ r3⟩, hb9⟩

set_option maxHeartbeats 1000000 in
theorem eqTransition_same (v u : Value) (B : Nat) (t : TrN) (w : World) (hv : RdT w B v t) (hu : RdT w B u t) (hB : B ≤ w.heap.size) (hs : t.small) :
    Calls Try.prog 18 #[v, u] w fun e w' => e = .returned (.bool true) ∧ Below w.heap.size w w' := by
  obtain ⟨A, ca, C, cb, D, cc, rfl, ha, hb, hc⟩ := hv.form
  obtain ⟨A2, ca2, C2, cb2, D2, cc2, rfl, ha2, hb2, hc2⟩ := hu.form
  clear hv hu
  obtain ⟨n, xs, m, ys, c, p, ps⟩ := t
  simp only [TrN.small] at *
  obtain ⟨s1, s2, s3⟩ := hs
  obtain ⟨W1, eW1⟩ : ∃ W1, (w.alloc (.cells #[.slice A n ca, .slice C m cb, .int .i64 c, .slice D p cc] 43)).alloc (.cells #[.slice A2 n ca2, .slice C2 m cb2, .int .i64 c, .slice D2 p cc2] 43) = W1 := ⟨_, rfl⟩
  have HB1 : Below w.heap.size w W1 := by rw [← eW1]; exact below_new (below_new (Below.refl _ _) _) _
  have K0 : Blk W1 w.heap.size 43 #[.slice A n ca, .slice C m cb, .int .i64 c, .slice D p cc] := by rw [← eW1]; exact (Blk.new _ _ _).alloc _
  have K1 : Blk W1 (w.heap.size + 1) 43 #[.slice A2 n ca2, .slice C2 m cb2, .int .i64 c, .slice D2 p cc2] := by rw [← eW1]; exact Blk.new2 _ _ _ _
  have P1 := Lib.hid (fun W (hb : Below w.heap.size w W) => eqSpotS_same (.slice A n ca) (.slice A2 n ca2) n B xs W (ha.below' hb hB) (ha2.below' hb hB) (Nat.le_trans hB hb.size) (by omega))
  have P2 := Lib.hid (fun W (hb' : Below w.heap.size w W) => eqSpotS_same (.slice C m cb) (.slice C2 m cb2) m B ys W (hb.below' hb' hB) (hb2.below' hb' hB) (Nat.le_trans hB hb'.size) (by omega))
  have P3 := Lib.hid (fun W (hb' : Below w.heap.size w W) => eqIntS_same (.slice D p cc) (.slice D2 p cc2) p B ps W (hc.below' hb' hB) (hc2.below' hb' hB) (Nat.le_trans hB hb'.size) (by omega))
  have hcc : (c != c) = false := by simp
  obtain ⟨a0, a1, a2, a3⟩ := K0.c4
  obtain ⟨b0, b1, b2, b3⟩ := K1.c4
  replace K0 := Lib.hid K0
  replace K1 := Lib.hid K1
  replace HB1 := Lib.hid HB1
  clear ha hb hc ha2 hb2 hc2
  go_enter Try.func18, Try.ntmps18
  go_wp2_with fail
  refine (P1.out _ HB1.out).mono ?_
  rintro e w2 ⟨rfl, h2⟩
  replace K0 := Lib.hid (K0.out.on h2)
  replace K1 := Lib.hid (K1.out.on h2)
  replace HB1 := Lib.hid (below_on HB1.out h2)
  clear a0 a1 a2 a3 b0 b1 b2 b3 h2 P1
  obtain ⟨a0, a1, a2, a3⟩ := K0.out.c4
  obtain ⟨b0, b1, b2, b3⟩ := K1.out.c4
  go_wp2_with fail
  refine (P2.out _ HB1.out).mono ?_
  rintro e w3 ⟨rfl, h2⟩
  replace K0 := Lib.hid (K0.out.on h2)
  replace K1 := Lib.hid (K1.out.on h2)
  replace HB1 := Lib.hid (below_on HB1.out h2)
  clear a0 a1 a2 a3 b0 b1 b2 b3 h2 P2
  obtain ⟨a0, a1, a2, a3⟩ := K0.out.c4
  obtain ⟨b0, b1, b2, b3⟩ := K1.out.c4
  go_wp2_with fail
  refine (P3.out _ HB1.out).mono ?_
  rintro e w4 ⟨rfl, h2⟩
  replace HB1 := Lib.hid (below_on HB1.out h2)
  clear a0 a1 a2 a3 b0 b1 b2 b3 h2 P3
  go_wp2_with fail
  go_ret
  exact ⟨rfl, HB1.out⟩

set_option maxHeartbeats 1000000 in
theorem markTransition_any (v : Value) (lo hi : Nat) (t : TrN) (w : World) (hv : OwnT w lo hi v t) (hs : t.small) :
    Calls Try.prog 24 #[v, .int .i64 1] w fun e w' => (∃ r : Int, 0 ≤ r ∧ e = .returned (.int .i64 r)) ∧ Only lo hi w w' := by
  obtain ⟨va, vb, vc, m1, m2, rfl, l1, l2, l3, ha, hb, hc⟩ := hv
  obtain ⟨A, ca, rfl⟩ := ha.rd.form
  obtain ⟨C, cb, rfl⟩ := hb.rd.form
  obtain ⟨D, cc, rfl⟩ := hc.rd.form
  obtain ⟨n, xs, m, ys, c, p, ps⟩ := t
  simp only [TrN.small] at *
  obtain ⟨s1, s2, s3⟩ := hs
  obtain ⟨W1, eW1⟩ : ∃ W1, w.alloc (.cells #[.slice A n ca, .slice C m cb, .int .i64 c, .slice D p cc] 43) = W1 := ⟨_, rfl⟩
  have hb1 : Below w.heap.size w W1 := by rw [← eW1]; exact below_new (Below.refl _ _) _
  have K0 : Blk W1 w.heap.size 43 #[.slice A n ca, .slice C m cb, .int .i64 c, .slice D p cc] := by rw [← eW1]; exact Blk.new _ _ _
  have O0 := Lib.hid (Only.of_below (lo := lo) (hi := hi) hb1)
  replace ha := Lib.hid (ha.below hb1 (Nat.le_refl _))
  replace hb := Lib.hid (hb.below hb1 (Nat.le_refl _))
  replace hc := Lib.hid (hc.below hb1 (Nat.le_refl _))
  have L := Lib.hid (And.intro l1 (And.intro l2 l3))
  obtain ⟨a0, a1, a2, a3⟩ := K0.c4
  have KB := Lib.hid (own_blk_ne ha.out.1 K0 (by decide))
  have KC := Lib.hid (own_blk_ne hb.out.1 K0 (by decide))
  have KD := Lib.hid (own_blk_ne hc.out.1 K0 (by decide))
  replace K0 := Lib.hid K0
  clear hb1 l1 l2 l3
  go_enter Try.func24, Try.ntmps24
  go_wp2_with fail
  refine (markSpotS_any _ n _ _ 1 _ ha.out.1 (by omega) (by omega) (by omega)).mono ?_
  rintro e w2 ⟨rfl, _, g2⟩
  have O2 := O0.out.trans (Only.of_grown g2 (fun k hk => ⟨(ha.out.1.lt k hk).1, by have := ha.out.2 k hk; have := L.out; omega⟩))
  replace hb := Lib.hid (hb.out.other ha.out (.inr (Nat.le_refl _)) g2)
  replace hc := Lib.hid (hc.out.other ha.out (.inr L.out.2.1) g2)
  replace K0 := Lib.hid (K0.out.grown g2 (fun e => KB.out e.symm))
  replace O0 := Lib.hid O2
  clear g2 O2 a0 a1 a2 a3 KB
  obtain ⟨a0, a1, a2, a3⟩ := K0.out.c4
  go_wp2_with fail
  refine (markSpotS_any _ m _ _ _ _ hb.out.1 (by omega) (by omega) (by omega)).mono ?_
  rintro e w3 ⟨rfl, _, g2⟩
  have O2 := O0.out.trans (Only.of_grown g2 (fun k hk => ⟨by have := (hb.out.1.lt k hk).1; have := L.out; omega, by have := hb.out.2 k hk; have := L.out; omega⟩))
  replace hc := Lib.hid (hc.out.other hb.out (.inr (Nat.le_refl _)) g2)
  replace K0 := Lib.hid (K0.out.grown g2 (fun e => KC.out e.symm))
  replace O0 := Lib.hid O2
  clear g2 O2 a0 a1 a2 a3 KC
  obtain ⟨a0, a1, a2, a3⟩ := K0.out.c4
  go_wp2_with fail
  refine (markIntS_any _ p _ _ _ _ hc.out.1 (by omega) (by omega) (by omega)).mono ?_
  rintro e w4 ⟨rfl, _, g2⟩
  have O2 := O0.out.trans (Only.of_grown g2 (fun k hk => ⟨by have := (hc.out.1.lt k hk).1; have := L.out; omega, by have := hc.out.2 k hk; have := L.out; omega⟩))
  replace O0 := Lib.hid O2
  clear g2 O2 a0 a1 a2 a3
  go_wp2_with fail
  go_ret
  exact ⟨⟨_, by omega, rfl⟩, O0.out⟩
end Go.Proofs.Ytpikhkdgohapeaa
