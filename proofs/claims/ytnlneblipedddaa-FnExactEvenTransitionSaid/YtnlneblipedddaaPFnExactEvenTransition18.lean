/- Contracts of what the reference asks ahead of a transition, and of a transition in new memory. Conditions: short slices that are owned. -/
import Derived.Test.YtnlneblipedddaaPFnExactEvenTransition13
import Derived.Test.YtnlneblipedddaaPFnExactEvenTransition15
import Derived.Test.YtnlneblipedddaaPFnExactEvenTransition17
import Derived.Test.YtnlneblipedddaaPFnExactEvenTransition04
namespace Go.Proofs.Ytnlneblipedddaa
open Go.RowKit

def aaB (n : Nat) (xs : List Int) (m : Nat) (ys : List Int) (c : Int) : Bool := (chB n xs && (chB m ys && n == m)) && inB c 1 64
theorem asAsked_any (v u : Value) (n m B : Nat) (xs ys : List Int) (c : Int) (w : World) (hcp : Cap v) (hcp2 : Cap u) (hv : Rd w B 2 v n xs) (hu : Rd w B 2 u m ys) (hB : B ≤ w.heap.size) (hn : n ≤ 1099511627776) (hm : m ≤ 1099511627776) :
    Calls Try.prog 37 #[v, u, .int .i64 c] w fun e w' => e = .returned (.bool (aaB n xs m ys c)) ∧ Below w.heap.size w w' := by
  have P := Lib.hid (chPair_any v u n m B xs ys w hcp hcp2 hv hu hB hn hm)
  obtain ⟨A, ca, rfl⟩ := hv.form
  obtain ⟨C, cb, rfl⟩ := hu.form
  have hdef : aaB n xs m ys c = ((chB n xs && (chB m ys && n == m)) && inB c 1 64) := rfl
  obtain ⟨b, eb⟩ : ∃ b, (chB n xs && (chB m ys && n == m)) = b := ⟨_, rfl⟩
  rw [eb] at P hdef
  have HD := Lib.hid hdef
  clear eb hdef hv hu hcp hcp2
  cases b with
  | false =>
    go_enter Try.func37, Try.ntmps37
    go_wp2_with fail
    refine P.out.mono ?_
    rintro e w2 ⟨rfl, hb⟩
    have HB := Lib.hid hb
    clear hb
    go_wp2_with fail
    go_ret
    exact ⟨by rw [HD.out]; rfl, HB.out⟩
  | true =>
    go_enter Try.func37, Try.ntmps37
    go_wp2_with fail
    refine P.out.mono ?_
    rintro e w2 ⟨rfl, hb⟩
    have HB := Lib.hid hb
    clear hb
    go_wp2_with fail
    refine (l1In_any c 1 64 _).mono ?_
    rintro e w3 ⟨rfl, rfl⟩
    go_wp2_with fail
    go_ret
    exact ⟨by rw [HD.out]; rfl, HB.out⟩
/-- A transition whose slices are owned. -/
def OwnA (w : World) (lo : Nat) (v : Value) (t : TrN) : Prop :=
  ∃ va vb vc, v = .agg #[va, vb, .int .i64 t.c, vc] ∧ w.ownsRow lo 75 2 va t.n (ints t.xs) ∧ w.ownsRow lo 75 2 vb t.m (ints t.ys) ∧ w.ownsRow lo 3 1 vc t.p (ints t.ps)
section
variable {w w' : World} {lo lo2 C : Nat} {v : Value} {t : TrN}
theorem OwnA.rd (h : OwnA w lo v t) : RdT w w.heap.size v t := by
  obtain ⟨va, vb, vc, e, ha, hb, hc⟩ := h
  exact ⟨va, vb, vc, e, Rd.of_own ha, Rd.of_own hb, Rd.of_own hc⟩
theorem OwnA.below (h : OwnA w lo v t) (hb : Below C w w') (hC : w.heap.size ≤ C) : OwnA w' lo v t := by
  obtain ⟨va, vb, vc, e, h1, h2, h3⟩ := h
  exact ⟨va, vb, vc, e, own_below h1 hb hC, own_below h2 hb hC, own_below h3 hb hC⟩
theorem OwnA.base (h : OwnA w lo v t) (hl : lo2 ≤ lo) : OwnA w lo2 v t := by
  obtain ⟨va, vb, vc, e, h1, h2, h3⟩ := h
  exact ⟨va, vb, vc, e, own_base h1 hl, own_base h2 hl, own_base h3 hl⟩
theorem OwnA.drewN (h : OwnA w lo v t) (k : Nat) : OwnA (w.drewN k) lo v t := h
theorem OwnA.cap (h : OwnA w lo v t) : CapT v := by
  obtain ⟨va, vb, vc, rfl, ha, hb, hc⟩ := h
  intro A n ca C m cb c D p cc he
  simp only [Value.agg.injEq, Array.mk.injEq, List.cons.injEq] at he
  obtain ⟨rfl, rfl, _, rfl, _⟩ := he
  have one : ∀ {e : TypeId} {sz n : Nat} {A : Option Addr} {m c : Nat} {xs : List Int}, w.ownsRow lo e sz (.slice A m c) n (ints xs) → m ≤ c := by
    intro e sz n A m c xs h
    rcases h.2 with ⟨hv, _⟩ | ⟨g, cap, cur, hv, _, _, hc, _⟩
    · simp only [Value.slice.injEq] at hv; omega
    · simp only [Value.slice.injEq] at hv; omega
  exact ⟨one ha, one hb, one hc⟩
theorem OwnA.form (h : OwnA w lo v t) : ∃ A ca D cb E cc, v = .agg #[.slice A t.n ca, .slice D t.m cb, .int .i64 t.c, .slice E t.p cc] ∧ w.ownsRow lo 75 2 (.slice A t.n ca) t.n (ints t.xs) ∧ w.ownsRow lo 75 2 (.slice D t.m cb) t.m (ints t.ys) ∧ w.ownsRow lo 3 1 (.slice E t.p cc) t.p (ints t.ps) := by
  obtain ⟨va, vb, vc, rfl, ha, hb, hc⟩ := h
  obtain ⟨A, ca, rfl⟩ := (Rd.of_own ha).form
  obtain ⟨D, cb, rfl⟩ := (Rd.of_own hb).form
  obtain ⟨E, cc, rfl⟩ := (Rd.of_own hc).form
  exact ⟨A, ca, D, cb, E, cc, rfl, ha, hb, hc⟩
end
theorem own_cap {w : World} {lo : Nat} {e : TypeId} {sz n : Nat} {v : Value} {xs : List Value} (h : w.ownsRow lo e sz v n xs) : Cap v := by
  rcases h.2 with ⟨rfl, _⟩ | ⟨g, cap, cur, rfl, _, _, hc, _⟩
  · intro A m c he
    simp only [Value.slice.injEq] at he; omega
  · intro A m c he
    simp only [Value.slice.injEq] at he; omega
def zeroT : TrN := ⟨0, [], 0, [], 0, 0, []⟩
theorem OwnA.zero (w : World) (lo : Nat) : OwnA w lo (.agg #[.slice none 0 0, .slice none 0 0, .int .i64 0, .slice none 0 0]) zeroT := ⟨_, _, _, rfl, World.ownsRow_nil _ _ _ _, World.ownsRow_nil _ _ _ _, World.ownsRow_nil _ _ _ _⟩
def zT : Array Value := #[.slice none 0 0, .slice none 0 0, .int .i64 0, .slice none 0 0]
theorem blk_set4 {w : World} {g : Nat} {t : TypeId} {a b c d : Value} (h : Blk w g t #[a, b, c, d]) (u v x y : Value) : Blk ((((w.setCell ⟨g, 0, none⟩ u).setCell ⟨g, 1, none⟩ v).setCell ⟨g, 2, none⟩ x).setCell ⟨g, 3, none⟩ y) g t #[u, v, x, y] := (((h.set_ 0 u).set_ 1 v).set_ 2 x).set_ 3 y
theorem below_set4 {w W : World} {B g : Nat} (h : Below B w W) (hg : B ≤ g) (u v x y : Value) : Below B w ((((W.setCell ⟨g, 0, none⟩ u).setCell ⟨g, 1, none⟩ v).setCell ⟨g, 2, none⟩ x).setCell ⟨g, 3, none⟩ y) := (((h.setCell (p := ⟨g, 0, none⟩) hg u).setCell (p := ⟨g, 1, none⟩) hg v).setCell (p := ⟨g, 2, none⟩) hg x).setCell (p := ⟨g, 3, none⟩) hg y
theorem only_st (w : World) (c i : Nat) (u : Value) : Only c (c + 1) w (w.setCell ⟨c, i, none⟩ u) :=
  ⟨rfl, rfl, rfl, by simp, fun k _ ho => Below.heap_setCell w _ u k (by show k ≠ c; omega)⟩
theorem own_set4 {w : World} {lo sz n g : Nat} {e t : TypeId} {v : Value} {xs : List Value} {cs : Array Value} (h : w.ownsRow lo e sz v n xs) (hb : Blk w g t cs) (hne : e ≠ t) (u q x y : Value) : ((((w.setCell ⟨g, 0, none⟩ u).setCell ⟨g, 1, none⟩ q).setCell ⟨g, 2, none⟩ x).setCell ⟨g, 3, none⟩ y).ownsRow lo e sz v n xs := by
  have hn : ∀ k, v.ownBlock = some k → k < g ∨ g + 1 ≤ k := by
    intro k hk
    have : k ≠ g := fun e => own_blk_ne h hb hne (e ▸ hk)
    omega
  exact own_kept (own_kept (own_kept (own_kept h (only_st w g 0 u) hn) (only_st _ g 1 q) hn) (only_st _ g 2 x) hn) (only_st _ g 3 y) hn
set_option maxRecDepth 100000 in
set_option maxHeartbeats 2000000 in
theorem asWith_any (v u q : Value) (lo lq n m p : Nat) (xs ys ps : List Int) (c : Int) (w : World) (hv : w.ownsRow lo 75 2 v n (ints xs)) (hu : w.ownsRow lo 75 2 u m (ints ys)) (hq : w.ownsRow lq 3 1 q p (ints ps)) (hn : n ≤ 1000) (hm : m ≤ 1000) (hp : p ≤ 1000) :
    Calls Try.prog 40 #[v, u, .int .i64 c, q] w fun e w' => ∃ r, e = .returned r ∧ OwnA w' w.heap.size r ⟨n, xs, m, ys, c, p, ps⟩ ∧ Below w.heap.size w w' := by
  obtain ⟨A, ca, rfl⟩ := (Rd.of_own hv).form
  obtain ⟨C, cb, rfl⟩ := (Rd.of_own hu).form
  obtain ⟨D, cc, rfl⟩ := (Rd.of_own hq).form
  have K0 := Lib.hid (Blk.new w 29 #[.slice none 0 0, .slice none 0 0, .int .i64 0, .slice none 0 0])
  have HB0 := Lib.hid (below_new (Below.refl w.heap.size w) (.cells #[.slice none 0 0, .slice none 0 0, .int .i64 0, .slice none 0 0] 29))
  have P1 := Lib.hid (chOwn_any _ lo n xs _ (hv.alloc (.cells #[.slice none 0 0, .slice none 0 0, .int .i64 0, .slice none 0 0] 29)) hn)
  have HU := Lib.hid (hu.alloc (.cells #[.slice none 0 0, .slice none 0 0, .int .i64 0, .slice none 0 0] 29))
  have HQ := Lib.hid (hq.alloc (.cells #[.slice none 0 0, .slice none 0 0, .int .i64 0, .slice none 0 0] 29))
  clear hv hu hq
  go_enter Try.func40, Try.ntmps40
  go_wp2_with fail
  refine P1.out.mono ?_
  rintro e w2 ⟨u1, rfl, o1, b1⟩
  obtain ⟨A1, c1, rfl⟩ := (Rd.of_own o1).form
  have K1 := Lib.hid (K0.out.on b1)
  have HB1 := Lib.hid (below_on HB0.out b1)
  have HQ1 := Lib.hid (own_below HQ.out b1 (Nat.le_refl _))
  have P2 := Lib.hid (chOwn_any _ lo m ys _ (own_below HU.out b1 (Nat.le_refl _)) hm)
  have O1 := Lib.hid (own_base (base' := w.heap.size) o1 HB0.out.size)
  clear o1 b1 K0 HB0 HQ HU
  go_wp2_with fail
  refine P2.out.mono ?_
  rintro e w3 ⟨u2, rfl, o2, b2⟩
  obtain ⟨A2, c2, rfl⟩ := (Rd.of_own o2).form
  have K2 := Lib.hid (K1.out.on b2)
  have O12 := Lib.hid (own_below O1.out b2 (Nat.le_refl _))
  have P3 := Lib.hid (l1Own_any _ lq p ps _ (own_below HQ1.out b2 (Nat.le_refl _)) (by omega))
  have O2 := Lib.hid (own_base (base' := w.heap.size) o2 HB1.out.size)
  have HB2 := Lib.hid (below_on HB1.out b2)
  clear o2 b2 K1 HB1 HQ1 O1
  go_wp2_with fail
  refine P3.out.mono ?_
  rintro e w4 ⟨u3, rfl, o3, b3⟩
  obtain ⟨A3, c3, rfl⟩ := (Rd.of_own o3).form
  have k3 := K2.out.on b3
  have O13 := Lib.hid (own_below O12.out b3 (Nat.le_refl _))
  have O23 := Lib.hid (own_below O2.out b3 (Nat.le_refl _))
  have O3 := Lib.hid (own_base (base' := w.heap.size) o3 HB2.out.size)
  have HB3 := Lib.hid (below_on HB2.out b3)
  obtain ⟨f0, f1, f2, f3⟩ := k3.c4
  have g0 := k3.frozen 0
  have g1 := k3.frozen 1
  have g2 := k3.frozen 2
  have g3 := k3.frozen 3
  have K3 := Lib.hid k3
  clear o3 b3 K2 HB2 O12 O2 k3
  go_wp2_with fail
  obtain ⟨m0, m1, m2, m3⟩ := (blk_set4 K3.out (.slice A1 n c1) (.slice A2 m c2) (.int .i64 c) (.slice A3 p c3)).c4
  exact bodyPost_ret (v := .agg #[.slice A1 n c1, .slice A2 m c2, .int .i64 c, .slice A3 p c3]) (by simp [results, Try.results40, go_sem, m0, m1, m2, m3]) rfl
    ⟨_, rfl, ⟨_, _, _, rfl, own_set4 O13.out K3.out (by decide) _ _ _ _, own_set4 O23.out K3.out (by decide) _ _ _ _, own_set4 O3.out K3.out (by decide) _ _ _ _⟩, below_set4 HB3.out (Nat.le_refl _) _ _ _ _⟩
end Go.Proofs.Ytnlneblipedddaa
