/- Contracts of the tests whether a transition is good, in the program and in the reference. Conditions: the slices can be read, and their lengths are at most their capacities. -/
import Derived.Test.YtpikhkdgohapeaaTransGood
namespace Go.Proofs.Ytpikhkdgohapeaa
open Go.RowKit

def CapT (v : Value) : Prop := ∀ A n ca C m cb c D p cc, v = .agg #[.slice A n ca, .slice C m cb, c, .slice D p cc] → n ≤ ca ∧ m ≤ cb ∧ p ≤ cc
theorem OwnT.cap {w : World} {lo hi : Nat} {v : Value} {t : TrN} (h : OwnT w lo hi v t) : CapT v := by
  obtain ⟨va, vb, vc, m1, m2, rfl, _, _, _, ha, hb, hc⟩ := h
  intro A n ca C m cb c D p cc he
  simp only [Value.agg.injEq, Array.mk.injEq, List.cons.injEq] at he
  obtain ⟨rfl, rfl, _, rfl, _⟩ := he
  exact ⟨ha.cap _ _ _ rfl, hb.cap _ _ _ rfl, hc.cap _ _ _ rfl⟩
theorem cap_mk {A : Option Addr} {n c : Nat} (h : n ≤ c) : Cap (.slice A n c) := by
  intro A' n' c' he
  simp only [Value.slice.injEq] at he
  omega
set_option maxHeartbeats 2000000 in
theorem IsTransition_any (v : Value) (B : Nat) (t : TrN) (w : World) (hcp : CapT v) (hv : RdT w B v t) (hB : B ≤ w.heap.size) (hs : t.small) :
    Calls Try.prog 48 #[v] w fun e w' => e = .returned (.bool (trB t)) ∧ Below w.heap.size w w' := by
  obtain ⟨A, ca, C, cb, D, cc, rfl, ha, hb, hc⟩ := hv.form
  obtain ⟨l1, l2, l3⟩ := hcp _ _ _ _ _ _ _ _ _ _ rfl
  clear hv hcp
  obtain ⟨n, xs, m, ys, c, p, ps⟩ := t
  simp only [TrN.small] at *
  obtain ⟨s1, s2, s3⟩ := hs
  obtain ⟨W1, eW1⟩ : ∃ W1, w.alloc (.cells #[.slice A n ca, .slice C m cb, .int .i64 c, .slice D p cc] 43) = W1 := ⟨_, rfl⟩
  have HB1 : Below w.heap.size w W1 := by rw [← eW1]; exact below_new (Below.refl _ _) _
  have K0 : Blk W1 w.heap.size 43 #[.slice A n ca, .slice C m cb, .int .i64 c, .slice D p cc] := by rw [← eW1]; exact Blk.new _ _ _
  obtain ⟨a0, a1, a2, a3⟩ := K0.c4
  replace K0 := Lib.hid K0
  replace HB1 := Lib.hid HB1
  have Ha := Lib.hid ha
  have Hb := Lib.hid hb
  have Hc := Lib.hid hc
  clear ha hb hc
  have HT := Lib.hid (show trB ⟨n, xs, m, ys, c, p, ps⟩ = (chB n xs && (chB m ys && (n == m && (inB c 1 64 && maB n p ps)))) from rfl)
  have P1 := fun W (hb : Below w.heap.size w W) => IsChart_any (.slice A n ca) n B xs W (cap_mk l1) (Ha.out.below' hb hB) (Nat.le_trans hB hb.size) (by omega)
  have P2 := fun W (hb : Below w.heap.size w W) => IsChart_any (.slice C m cb) m B ys W (cap_mk l2) (Hb.out.below' hb hB) (Nat.le_trans hB hb.size) (by omega)
  have P3 := fun W => within_any c 1 64 W
  have P4 := fun (h1 : 1 ≤ n) (h2 : n ≤ 12) W (hb : Below w.heap.size w W) => isMatching_any (.slice D p cc) p n B ps W (Hc.out.below' hb hB) (by omega) h1 h2
  have hsp := chB_spot (n := n) (xs := xs)
  obtain ⟨b1, e1⟩ : ∃ b, chB n xs = b := ⟨_, rfl⟩
  obtain ⟨b2, e2⟩ : ∃ b, chB m ys = b := ⟨_, rfl⟩
  obtain ⟨b3, e3⟩ : ∃ b, inB c 1 64 = b := ⟨_, rfl⟩
  obtain ⟨b4, e4⟩ : ∃ b, maB n p ps = b := ⟨_, rfl⟩
  rw [e1] at P1 HT hsp
  rw [e2] at P2 HT
  rw [e3] at P3 HT
  rw [e4] at P4 HT
  have Q1 := Lib.hid P1
  have Q2 := Lib.hid P2
  have Q3 := Lib.hid P3
  have Q4 := Lib.hid P4
  clear P1 P2 P3 P4 e1 e2 e3 e4
  cases b1 with
  | false =>
    have hf := Lib.hid (show trB ⟨n, xs, m, ys, c, p, ps⟩ = false by rw [HT.out]; rfl)
    go_enter Try.func48, Try.ntmps48
    go_wp2_with fail
    refine (Q1.out _ HB1.out).mono ?_
    rintro e w2 ⟨rfl, h2⟩
    have HB2 := Lib.hid (below_on HB1.out h2)
    have K2 := Lib.hid (K0.out.on h2)
    clear h2 a0 a1 a2 a3 HB1 K0
    have HB1 := HB2
    have K0 := K2
    clear HB2 K2
    obtain ⟨a0, a1, a2, a3⟩ := K0.out.c4
    go_wp2_with fail
    go_ret
    exact ⟨by rw [hf.out]; rfl, HB1.out⟩
  | true =>
    obtain ⟨⟨n1, n12⟩, _⟩ := hsp rfl
    cases b2 with
    | false =>
      have hf := Lib.hid (show trB ⟨n, xs, m, ys, c, p, ps⟩ = false by rw [HT.out]; rfl)
      go_enter Try.func48, Try.ntmps48
      go_wp2_with fail
      refine (Q1.out _ HB1.out).mono ?_
      rintro e w2 ⟨rfl, h2⟩
      have HB2 := Lib.hid (below_on HB1.out h2)
      have K2 := Lib.hid (K0.out.on h2)
      clear h2 a0 a1 a2 a3 HB1 K0
      have HB1 := HB2
      have K0 := K2
      clear HB2 K2
      obtain ⟨a0, a1, a2, a3⟩ := K0.out.c4
      go_wp2_with fail
      refine (Q2.out _ HB1.out).mono ?_
      rintro e w3 ⟨rfl, h2⟩
      have HB2 := Lib.hid (below_on HB1.out h2)
      have K2 := Lib.hid (K0.out.on h2)
      clear h2 a0 a1 a2 a3 HB1 K0
      have HB1 := HB2
      have K0 := K2
      clear HB2 K2
      obtain ⟨a0, a1, a2, a3⟩ := K0.out.c4
      go_wp2_with fail
      go_ret
      exact ⟨by rw [hf.out]; rfl, HB1.out⟩
    | true =>
      by_cases hnm : n = m
      · subst hnm
        have hbe : ((n : Int) == (n : Int)) = true := by simp
        cases b3 with
        | false =>
          have hf := Lib.hid (show trB ⟨n, xs, n, ys, c, p, ps⟩ = false by rw [HT.out]; simp)
          go_enter Try.func48, Try.ntmps48
          go_wp2_with fail
          refine (Q1.out _ HB1.out).mono ?_
          rintro e w2 ⟨rfl, h2⟩
          have HB2 := Lib.hid (below_on HB1.out h2)
          have K2 := Lib.hid (K0.out.on h2)
          clear h2 a0 a1 a2 a3 HB1 K0
          have HB1 := HB2
          have K0 := K2
          clear HB2 K2
          obtain ⟨a0, a1, a2, a3⟩ := K0.out.c4
          go_wp2_with fail
          refine (Q2.out _ HB1.out).mono ?_
          rintro e w3 ⟨rfl, h2⟩
          have HB2 := Lib.hid (below_on HB1.out h2)
          have K2 := Lib.hid (K0.out.on h2)
          clear h2 a0 a1 a2 a3 HB1 K0
          have HB1 := HB2
          have K0 := K2
          clear HB2 K2
          obtain ⟨a0, a1, a2, a3⟩ := K0.out.c4
          go_wp2_with fail
          refine (Q3.out _).mono ?_
          rintro e w4 ⟨rfl, rfl⟩
          go_wp2_with fail
          go_ret
          exact ⟨by rw [hf.out]; rfl, HB1.out⟩
        | true =>
          have hf := Lib.hid (show trB ⟨n, xs, n, ys, c, p, ps⟩ = b4 by rw [HT.out]; simp)
          go_enter Try.func48, Try.ntmps48
          go_wp2_with fail
          refine (Q1.out _ HB1.out).mono ?_
          rintro e w2 ⟨rfl, h2⟩
          have HB2 := Lib.hid (below_on HB1.out h2)
          have K2 := Lib.hid (K0.out.on h2)
          clear h2 a0 a1 a2 a3 HB1 K0
          have HB1 := HB2
          have K0 := K2
          clear HB2 K2
          obtain ⟨a0, a1, a2, a3⟩ := K0.out.c4
          go_wp2_with fail
          refine (Q2.out _ HB1.out).mono ?_
          rintro e w3 ⟨rfl, h2⟩
          have HB2 := Lib.hid (below_on HB1.out h2)
          have K2 := Lib.hid (K0.out.on h2)
          clear h2 a0 a1 a2 a3 HB1 K0
          have HB1 := HB2
          have K0 := K2
          clear HB2 K2
          obtain ⟨a0, a1, a2, a3⟩ := K0.out.c4
          go_wp2_with fail
          refine (Q3.out _).mono ?_
          rintro e w4 ⟨rfl, rfl⟩
          go_wp2_with fail
          refine (Q4.out n1 n12 _ HB1.out).mono ?_
          rintro e w5 ⟨rfl, rfl⟩
          go_wp2_with fail
          go_ret
          exact ⟨by rw [hf.out]; rfl, HB1.out⟩
      · have hf := Lib.hid (show trB ⟨n, xs, m, ys, c, p, ps⟩ = false by rw [HT.out]; simp [hnm])
        have hbe : ((n : Int) == (m : Int)) = false := by simp; omega
        go_enter Try.func48, Try.ntmps48
        go_wp2_with fail
        refine (Q1.out _ HB1.out).mono ?_
        rintro e w2 ⟨rfl, h2⟩
        have HB2 := Lib.hid (below_on HB1.out h2)
        have K2 := Lib.hid (K0.out.on h2)
        clear h2 a0 a1 a2 a3 HB1 K0
        have HB1 := HB2
        have K0 := K2
        clear HB2 K2
        obtain ⟨a0, a1, a2, a3⟩ := K0.out.c4
        go_wp2_with fail
        refine (Q2.out _ HB1.out).mono ?_
        rintro e w3 ⟨rfl, h2⟩
        have HB2 := Lib.hid (below_on HB1.out h2)
        have K2 := Lib.hid (K0.out.on h2)
        clear h2 a0 a1 a2 a3 HB1 K0
        have HB1 := HB2
        have K0 := K2
        clear HB2 K2
        obtain ⟨a0, a1, a2, a3⟩ := K0.out.c4
        go_wp2_with fail
        go_ret
        exact ⟨by rw [hf.out]; rfl, HB1.out⟩
set_option maxHeartbeats 2000000 in
theorem chPair_any (v u : Value) (n m B : Nat) (xs ys : List Int) (w : World) (hcp : Cap v) (hcp2 : Cap u) (hv : Rd w B 2 v n xs) (hu : Rd w B 2 u m ys) (hB : B ≤ w.heap.size) (hn : n ≤ 1099511627776) (hm : m ≤ 1099511627776) :
    Calls Try.prog 74 #[v, u] w fun e w' => e = .returned (.bool (chB n xs && (chB m ys && n == m))) ∧ Below w.heap.size w w' := by
  have P1 := chGood_any v n B xs w hcp hv hB hn
  have P2 := fun W (hb : Below w.heap.size w W) => chGood_any u m B ys W hcp2 (hu.below' hb hB) (Nat.le_trans hB hb.size) hm
  obtain ⟨A, c, rfl⟩ := hv.form
  obtain ⟨C, d, rfl⟩ := hu.form
  obtain ⟨b1, e1⟩ : ∃ b, chB n xs = b := ⟨_, rfl⟩
  obtain ⟨b2, e2⟩ : ∃ b, chB m ys = b := ⟨_, rfl⟩
  rw [e1] at P1
  rw [e2] at P2
  rw [e1, e2]
  have Q1 := Lib.hid P1
  have Q2 := Lib.hid P2
  clear P1 P2 e1 e2 hv hu hcp hcp2
  cases b1 with
  | false =>
    have hf := Lib.hid (show (false && (b2 && n == m)) = false from rfl)
    go_enter Try.func74, Try.ntmps74
    go_wp2_with fail
    refine Q1.out.mono ?_
    rintro e w2 ⟨rfl, h2⟩
    have HB1 := Lib.hid h2
    go_wp2_with fail
    go_ret
    exact ⟨by rw [hf.out]; rfl, HB1.out⟩
  | true =>
    cases b2 with
    | false =>
      have hf := Lib.hid (show (true && (false && n == m)) = false from rfl)
      go_enter Try.func74, Try.ntmps74
      go_wp2_with fail
      refine Q1.out.mono ?_
      rintro e w2 ⟨rfl, h2⟩
      go_wp2_with fail
      refine (Q2.out _ h2).mono ?_
      rintro e w3 ⟨rfl, h3⟩
      have HB1 := Lib.hid (below_on h2 h3)
      go_wp2_with fail
      go_ret
      exact ⟨by rw [hf.out]; rfl, HB1.out⟩
    | true =>
      by_cases hnm : n = m
      · subst hnm
        have hf := Lib.hid (show (true && (true && n == n)) = true by simp)
        have hbe : ((n : Int) == (n : Int)) = true := by simp
        go_enter Try.func74, Try.ntmps74
        go_wp2_with fail
        refine Q1.out.mono ?_
        rintro e w2 ⟨rfl, h2⟩
        go_wp2_with fail
        refine (Q2.out _ h2).mono ?_
        rintro e w3 ⟨rfl, h3⟩
        have HB1 := Lib.hid (below_on h2 h3)
        go_wp2_with fail
        go_ret
        exact ⟨by rw [hf.out]; rfl, HB1.out⟩
      · have hf := Lib.hid (show (true && (true && n == m)) = false by simp [hnm])
        have hbe : ((n : Int) == (m : Int)) = false := by simp; omega
        go_enter Try.func74, Try.ntmps74
        go_wp2_with fail
        refine Q1.out.mono ?_
        rintro e w2 ⟨rfl, h2⟩
        go_wp2_with fail
        refine (Q2.out _ h2).mono ?_
        rintro e w3 ⟨rfl, h3⟩
        have HB1 := Lib.hid (below_on h2 h3)
        go_wp2_with fail
        go_ret
        exact ⟨by rw [hf.out]; rfl, HB1.out⟩
set_option maxHeartbeats 2000000 in
theorem asGood_any (v : Value) (B : Nat) (t : TrN) (w : World) (hcp : CapT v) (hv : RdT w B v t) (hB : B ≤ w.heap.size) (hs : t.small) :
    Calls Try.prog 43 #[v] w fun e w' => e = .returned (.bool (trB t)) ∧ Below w.heap.size w w' := by
  obtain ⟨A, ca, C, cb, D, cc, rfl, ha, hb, hc⟩ := hv.form
  obtain ⟨l1, l2, l3⟩ := hcp _ _ _ _ _ _ _ _ _ _ rfl
  clear hv hcp
  obtain ⟨n, xs, m, ys, c, p, ps⟩ := t
  simp only [TrN.small] at *
  obtain ⟨s1, s2, s3⟩ := hs
  obtain ⟨W1, eW1⟩ : ∃ W1, w.alloc (.cells #[.slice A n ca, .slice C m cb, .int .i64 c, .slice D p cc] 43) = W1 := ⟨_, rfl⟩
  have HB1 : Below w.heap.size w W1 := by rw [← eW1]; exact below_new (Below.refl _ _) _
  have K0 : Blk W1 w.heap.size 43 #[.slice A n ca, .slice C m cb, .int .i64 c, .slice D p cc] := by rw [← eW1]; exact Blk.new _ _ _
  obtain ⟨a0, a1, a2, a3⟩ := K0.c4
  replace K0 := Lib.hid K0
  replace HB1 := Lib.hid HB1
  have Ha := Lib.hid ha
  have Hb := Lib.hid hb
  have Hc := Lib.hid hc
  clear ha hb hc
  have HT := Lib.hid (show trB ⟨n, xs, m, ys, c, p, ps⟩ = ((chB n xs && (chB m ys && n == m)) && (inB c 1 64 && maB n p ps)) by
    show (chB n xs && (chB m ys && (n == m && (inB c 1 64 && maB n p ps)))) = _
    simp only [Bool.and_assoc])
  have P1 := fun W (hb : Below w.heap.size w W) => chPair_any (.slice A n ca) (.slice C m cb) n m B xs ys W (cap_mk l1) (cap_mk l2) (Ha.out.below' hb hB) (Hb.out.below' hb hB) (Nat.le_trans hB hb.size) (by omega) (by omega)
  have P3 := fun W => l1In_any c 1 64 W
  have P4 := fun W (hb : Below w.heap.size w W) => maPlaces_any (.slice D p cc) p n B ps W (cap_mk l3) (Hc.out.below' hb hB) (Nat.le_trans hB hb.size) (by omega) (by omega)
  obtain ⟨b1, e1⟩ : ∃ b, (chB n xs && (chB m ys && n == m)) = b := ⟨_, rfl⟩
  obtain ⟨b3, e3⟩ : ∃ b, inB c 1 64 = b := ⟨_, rfl⟩
  obtain ⟨b4, e4⟩ : ∃ b, maB n p ps = b := ⟨_, rfl⟩
  rw [e1] at P1 HT
  rw [e3] at P3 HT
  rw [e4] at P4 HT
  have Q1 := Lib.hid P1
  have Q3 := Lib.hid P3
  have Q4 := Lib.hid P4
  clear P1 P3 P4 e1 e3 e4
  cases b1 with
  | false =>
    have hf := Lib.hid (show trB ⟨n, xs, m, ys, c, p, ps⟩ = false by rw [HT.out]; rfl)
    go_enter Try.func43, Try.ntmps43
    go_wp2_with fail
    refine (Q1.out _ HB1.out).mono ?_
    rintro e w2 ⟨rfl, h2⟩
    have HB2 := Lib.hid (below_on HB1.out h2)
    have K2 := Lib.hid (K0.out.on h2)
    clear h2 a0 a1 a2 a3 HB1 K0
    have HB1 := HB2
    have K0 := K2
    clear HB2 K2
    obtain ⟨a0, a1, a2, a3⟩ := K0.out.c4
    go_wp2_with fail
    go_ret
    exact ⟨by rw [hf.out]; rfl, HB1.out⟩
  | true =>
    cases b3 with
    | false =>
      have hf := Lib.hid (show trB ⟨n, xs, m, ys, c, p, ps⟩ = false by rw [HT.out]; rfl)
      go_enter Try.func43, Try.ntmps43
      go_wp2_with fail
      refine (Q1.out _ HB1.out).mono ?_
      rintro e w2 ⟨rfl, h2⟩
      have HB2 := Lib.hid (below_on HB1.out h2)
      have K2 := Lib.hid (K0.out.on h2)
      clear h2 a0 a1 a2 a3 HB1 K0
      have HB1 := HB2
      have K0 := K2
      clear HB2 K2
      obtain ⟨a0, a1, a2, a3⟩ := K0.out.c4
      go_wp2_with fail
      refine (Q3.out _).mono ?_
      rintro e w4 ⟨rfl, rfl⟩
      go_wp2_with fail
      go_ret
      exact ⟨by rw [hf.out]; rfl, HB1.out⟩
    | true =>
      have hf := Lib.hid (show trB ⟨n, xs, m, ys, c, p, ps⟩ = b4 by rw [HT.out]; rfl)
      go_enter Try.func43, Try.ntmps43
      go_wp2_with fail
      refine (Q1.out _ HB1.out).mono ?_
      rintro e w2 ⟨rfl, h2⟩
      have HB2 := Lib.hid (below_on HB1.out h2)
      have K2 := Lib.hid (K0.out.on h2)
      clear h2 a0 a1 a2 a3 HB1 K0
      have HB1 := HB2
      have K0 := K2
      clear HB2 K2
      obtain ⟨a0, a1, a2, a3⟩ := K0.out.c4
      go_wp2_with fail
      refine (Q3.out _).mono ?_
      rintro e w4 ⟨rfl, rfl⟩
      go_wp2_with fail
      refine (Q4.out _ HB1.out).mono ?_
      rintro e w5 ⟨rfl, h2⟩
      have HB2 := Lib.hid (below_on HB1.out h2)
      have K2 := Lib.hid (K0.out.on h2)
      clear h2 a0 a1 a2 a3 HB1 K0
      have HB1 := HB2
      have K0 := K2
      clear HB2 K2
      obtain ⟨a0, a1, a2, a3⟩ := K0.out.c4
      go_wp2_with fail
      go_ret
      exact ⟨by rw [hf.out]; rfl, HB1.out⟩
end Go.Proofs.Ytpikhkdgohapeaa
