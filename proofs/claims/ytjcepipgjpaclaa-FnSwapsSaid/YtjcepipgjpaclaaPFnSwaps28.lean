/- Contracts of what the reference asks ahead of a transition, and of a transition in new memory. Conditions: short slices that are owned. A drawn matching. Condition: the source's bytes can be read. Contracts of the reference's exchange of the first and the last performer of a chart. Conditions: a valid chart of at least two spots that is owned. -/
import Derived.Test.YtjcepipgjpaclaaPFnSwaps16
import Derived.Test.YtjcepipgjpaclaaPFnSwaps24
import Derived.Test.YtjcepipgjpaclaaPFnSwaps27
import Derived.Test.YtjcepipgjpaclaaPFnSwaps03
import Derived.Test.YtjcepipgjpaclaaPFnSwaps12
namespace Go.Proofs.Ytjcepipgjpaclaa
open Go.RowKit

def aaB (n : Nat) (xs : List Int) (m : Nat) (ys : List Int) (c : Int) : Bool := (chB n xs && (chB m ys && n == m)) && inB c 1 64
theorem asAsked_any (v u : Value) (n m B : Nat) (xs ys : List Int) (c : Int) (w : World) (hcp : Cap v) (hcp2 : Cap u) (hv : Rd w B 2 v n xs) (hu : Rd w B 2 u m ys) (hB : B ≤ w.heap.size) (hn : n ≤ 1099511627776) (hm : m ≤ 1099511627776) :
    Calls Try.prog 90 #[v, u, .int .i64 c] w fun e w' => e = .returned (.bool (aaB n xs m ys c)) ∧ Below w.heap.size w w' := by
  have P := Lib.hid (chPair_any v u n m B xs ys w hcp hcp2 hv hu hB hn hm)
  obtain ⟨A, ca, rfl⟩ := hv.form
  obtain ⟨C, cb, rfl⟩ := hu.form
  have hdef : aaB n xs m ys c = ((chB n xs && (chB m ys && n == m)) && inB c 1 64) := rfl
  obtain ⟨b, eb⟩ : ∃ b, (chB n xs && (chB m ys && n == m)) = b := ⟨_, rfl⟩
  rw [eb] at P hdef
  have HD := Lib.hid hdef
  clear eb hdef hv hu hcp hcp2
  cases b with
  | false =>
    go_enter Try.func90, Try.ntmps90
    go_wp2_with fail
    refine P.out.mono ?_
    rintro e w2 ⟨rfl, hb⟩
    have HB := Lib.hid hb
    clear hb
    go_wp2_with fail
    go_ret
    exact ⟨by rw [HD.out]; rfl, HB.out⟩
  | true =>
    go_enter Try.func90, Try.ntmps90
    go_wp2_with fail
    refine P.out.mono ?_
    rintro e w2 ⟨rfl, hb⟩
    have HB := Lib.hid hb
    clear hb
    go_wp2_with fail
    refine (l1In_any c 1 64 _).mono ?_
    rintro e w3 ⟨rfl, rfl⟩
    go_wp2_with fail
    go_ret
    exact ⟨by rw [HD.out]; rfl, HB.out⟩
/-- A transition whose slices are owned. -/
def OwnA (w : World) (lo : Nat) (v : Value) (t : TrN) : Prop :=
  ∃ va vb vc, v = .agg #[va, vb, .int .i64 t.c, vc] ∧ w.ownsRow lo 45 2 va t.n (ints t.xs) ∧ w.ownsRow lo 45 2 vb t.m (ints t.ys) ∧ w.ownsRow lo 3 1 vc t.p (ints t.ps)
section
variable {w w' : World} {lo lo2 C : Nat} {v : Value} {t : TrN}
theorem OwnA.rd (h : OwnA w lo v t) : RdT w w.heap.size v t := by
  obtain ⟨va, vb, vc, e, ha, hb, hc⟩ := h
  exact ⟨va, vb, vc, e, Rd.of_own ha, Rd.of_own hb, Rd.of_own hc⟩
theorem OwnA.below (h : OwnA w lo v t) (hb : Below C w w') (hC : w.heap.size ≤ C) : OwnA w' lo v t := by
  obtain ⟨va, vb, vc, e, h1, h2, h3⟩ := h
  exact ⟨va, vb, vc, e, own_below h1 hb hC, own_below h2 hb hC, own_below h3 hb hC⟩
theorem OwnA.base (h : OwnA w lo v t) (hl : lo2 ≤ lo) : OwnA w lo2 v t := by
  obtain ⟨va, vb, vc, e, h1, h2, h3⟩ := h
  exact ⟨va, vb, vc, e, own_base h1 hl, own_base h2 hl, own_base h3 hl⟩
theorem OwnA.drewN (h : OwnA w lo v t) (k : Nat) : OwnA (w.drewN k) lo v t := h
theorem OwnA.cap (h : OwnA w lo v t) : CapT v := by
  obtain ⟨va, vb, vc, rfl, ha, hb, hc⟩ := h
  intro A n ca C m cb c D p cc he
  simp only [Value.agg.injEq, Array.mk.injEq, List.cons.injEq] at he
  obtain ⟨rfl, rfl, _, rfl, _⟩ := he
  have one : ∀ {e : TypeId} {sz n : Nat} {A : Option Addr} {m c : Nat} {xs : List Int}, w.ownsRow lo e sz (.slice A m c) n (ints xs) → m ≤ c := by
    intro e sz n A m c xs h
    rcases h.2 with ⟨hv, _⟩ | ⟨g, cap, cur, hv, _, _, hc, _⟩
    · simp only [Value.slice.injEq] at hv; omega
    · simp only [Value.slice.injEq] at hv; omega
  exact ⟨one ha, one hb, one hc⟩
theorem OwnA.form (h : OwnA w lo v t) : ∃ A ca D cb E cc, v = .agg #[.slice A t.n ca, .slice D t.m cb, .int .i64 t.c, .slice E t.p cc] ∧ w.ownsRow lo 45 2 (.slice A t.n ca) t.n (ints t.xs) ∧ w.ownsRow lo 45 2 (.slice D t.m cb) t.m (ints t.ys) ∧ w.ownsRow lo 3 1 (.slice E t.p cc) t.p (ints t.ps) := by
  obtain ⟨va, vb, vc, rfl, ha, hb, hc⟩ := h
  obtain ⟨A, ca, rfl⟩ := (Rd.of_own ha).form
  obtain ⟨D, cb, rfl⟩ := (Rd.of_own hb).form
  obtain ⟨E, cc, rfl⟩ := (Rd.of_own hc).form
  exact ⟨A, ca, D, cb, E, cc, rfl, ha, hb, hc⟩
end
theorem own_cap {w : World} {lo : Nat} {e : TypeId} {sz n : Nat} {v : Value} {xs : List Value} (h : w.ownsRow lo e sz v n xs) : Cap v := by
  rcases h.2 with ⟨rfl, _⟩ | ⟨g, cap, cur, rfl, _, _, hc, _⟩
  · intro A m c he
    simp only [Value.slice.injEq] at he; omega
  · intro A m c he
    simp only [Value.slice.injEq] at he; omega
def zeroT : TrN := ⟨0, [], 0, [], 0, 0, []⟩
theorem OwnA.zero (w : World) (lo : Nat) : OwnA w lo (.agg #[.slice none 0 0, .slice none 0 0, .int .i64 0, .slice none 0 0]) zeroT := ⟨_, _, _, rfl, World.ownsRow_nil _ _ _ _, World.ownsRow_nil _ _ _ _, World.ownsRow_nil _ _ _ _⟩
def zT : Array Value := #[.slice none 0 0, .slice none 0 0, .int .i64 0, .slice none 0 0]
theorem blk_set4 {w : World} {g : Nat} {t : TypeId} {a b c d : Value} (h : Blk w g t #[a, b, c, d]) (u v x y : Value) : Blk ((((w.setCell ⟨g, 0, none⟩ u).setCell ⟨g, 1, none⟩ v).setCell ⟨g, 2, none⟩ x).setCell ⟨g, 3, none⟩ y) g t #[u, v, x, y] := (((h.set_ 0 u).set_ 1 v).set_ 2 x).set_ 3 y
theorem below_set4 {w W : World} {B g : Nat} (h : Below B w W) (hg : B ≤ g) (u v x y : Value) : Below B w ((((W.setCell ⟨g, 0, none⟩ u).setCell ⟨g, 1, none⟩ v).setCell ⟨g, 2, none⟩ x).setCell ⟨g, 3, none⟩ y) := (((h.setCell (p := ⟨g, 0, none⟩) hg u).setCell (p := ⟨g, 1, none⟩) hg v).setCell (p := ⟨g, 2, none⟩) hg x).setCell (p := ⟨g, 3, none⟩) hg y
theorem only_st (w : World) (c i : Nat) (u : Value) : Only c (c + 1) w (w.setCell ⟨c, i, none⟩ u) :=
  ⟨rfl, rfl, rfl, by simp, fun k _ ho => Below.heap_setCell w _ u k (by show k ≠ c; omega)⟩
theorem own_set4 {w : World} {lo sz n g : Nat} {e t : TypeId} {v : Value} {xs : List Value} {cs : Array Value} (h : w.ownsRow lo e sz v n xs) (hb : Blk w g t cs) (hne : e ≠ t) (u q x y : Value) : ((((w.setCell ⟨g, 0, none⟩ u).setCell ⟨g, 1, none⟩ q).setCell ⟨g, 2, none⟩ x).setCell ⟨g, 3, none⟩ y).ownsRow lo e sz v n xs := by
  have hn : ∀ k, v.ownBlock = some k → k < g ∨ g + 1 ≤ k := by
    intro k hk
    have : k ≠ g := fun e => own_blk_ne h hb hne (e ▸ hk)
    omega
  exact own_kept (own_kept (own_kept (own_kept h (only_st w g 0 u) hn) (only_st _ g 1 q) hn) (only_st _ g 2 x) hn) (only_st _ g 3 y) hn
set_option maxRecDepth 100000 in
set_option maxHeartbeats 2000000 in
theorem asWith_any (v u q : Value) (lo lq n m p : Nat) (xs ys ps : List Int) (c : Int) (w : World) (hv : w.ownsRow lo 45 2 v n (ints xs)) (hu : w.ownsRow lo 45 2 u m (ints ys)) (hq : w.ownsRow lq 3 1 q p (ints ps)) (hn : n ≤ 1000) (hm : m ≤ 1000) (hp : p ≤ 1000) :
    Calls Try.prog 93 #[v, u, .int .i64 c, q] w fun e w' => ∃ r, e = .returned r ∧ OwnA w' w.heap.size r ⟨n, xs, m, ys, c, p, ps⟩ ∧ Below w.heap.size w w' := by
  obtain ⟨A, ca, rfl⟩ := (Rd.of_own hv).form
  obtain ⟨C, cb, rfl⟩ := (Rd.of_own hu).form
  obtain ⟨D, cc, rfl⟩ := (Rd.of_own hq).form
  have K0 := Lib.hid (Blk.new w 27 #[.slice none 0 0, .slice none 0 0, .int .i64 0, .slice none 0 0])
  have HB0 := Lib.hid (below_new (Below.refl w.heap.size w) (.cells #[.slice none 0 0, .slice none 0 0, .int .i64 0, .slice none 0 0] 27))
  have P1 := Lib.hid (chOwn_any _ lo n xs _ (hv.alloc (.cells #[.slice none 0 0, .slice none 0 0, .int .i64 0, .slice none 0 0] 27)) hn)
  have HU := Lib.hid (hu.alloc (.cells #[.slice none 0 0, .slice none 0 0, .int .i64 0, .slice none 0 0] 27))
  have HQ := Lib.hid (hq.alloc (.cells #[.slice none 0 0, .slice none 0 0, .int .i64 0, .slice none 0 0] 27))
  clear hv hu hq
  go_enter Try.func93, Try.ntmps93
  go_wp2_with fail
  refine P1.out.mono ?_
  rintro e w2 ⟨u1, rfl, o1, b1⟩
  obtain ⟨A1, c1, rfl⟩ := (Rd.of_own o1).form
  have K1 := Lib.hid (K0.out.on b1)
  have HB1 := Lib.hid (below_on HB0.out b1)
  have HQ1 := Lib.hid (own_below HQ.out b1 (Nat.le_refl _))
  have P2 := Lib.hid (chOwn_any _ lo m ys _ (own_below HU.out b1 (Nat.le_refl _)) hm)
  have O1 := Lib.hid (own_base (base' := w.heap.size) o1 HB0.out.size)
  clear o1 b1 K0 HB0 HQ HU
  go_wp2_with fail
  refine P2.out.mono ?_
  rintro e w3 ⟨u2, rfl, o2, b2⟩
  obtain ⟨A2, c2, rfl⟩ := (Rd.of_own o2).form
  have K2 := Lib.hid (K1.out.on b2)
  have O12 := Lib.hid (own_below O1.out b2 (Nat.le_refl _))
  have P3 := Lib.hid (l1Own_any _ lq p ps _ (own_below HQ1.out b2 (Nat.le_refl _)) (by omega))
  have O2 := Lib.hid (own_base (base' := w.heap.size) o2 HB1.out.size)
  have HB2 := Lib.hid (below_on HB1.out b2)
  clear o2 b2 K1 HB1 HQ1 O1
  go_wp2_with fail
  refine P3.out.mono ?_
  rintro e w4 ⟨u3, rfl, o3, b3⟩
  obtain ⟨A3, c3, rfl⟩ := (Rd.of_own o3).form
  have k3 := K2.out.on b3
  have O13 := Lib.hid (own_below O12.out b3 (Nat.le_refl _))
  have O23 := Lib.hid (own_below O2.out b3 (Nat.le_refl _))
  have O3 := Lib.hid (own_base (base' := w.heap.size) o3 HB2.out.size)
  have HB3 := Lib.hid (below_on HB2.out b3)
  obtain ⟨f0, f1, f2, f3⟩ := k3.c4
  have g0 := k3.frozen 0
  have g1 := k3.frozen 1
  have g2 := k3.frozen 2
  have g3 := k3.frozen 3
  have K3 := Lib.hid k3
  clear o3 b3 K2 HB2 O12 O2 k3
  go_wp2_with fail
  obtain ⟨m0, m1, m2, m3⟩ := (blk_set4 K3.out (.slice A1 n c1) (.slice A2 m c2) (.int .i64 c) (.slice A3 p c3)).c4
  exact bodyPost_ret (v := .agg #[.slice A1 n c1, .slice A2 m c2, .int .i64 c, .slice A3 p c3]) (by simp [results, Try.results93, go_sem, m0, m1, m2, m3]) rfl
    ⟨_, rfl, ⟨_, _, _, rfl, own_set4 O13.out K3.out (by decide) _ _ _ _, own_set4 O23.out K3.out (by decide) _ _ _ _, own_set4 O3.out K3.out (by decide) _ _ _ _⟩, below_set4 HB3.out (Nat.le_refl _) _ _ _ _⟩
end Go.Proofs.Ytjcepipgjpaclaa

namespace Go.Proofs.Ytjcepipgjpaclaa
open Go.RowKit

theorem wp_intpart {w : World} {o : Oper} {a : Act} {K : Act → World → Prop} {Q : Exit → Act → World → Prop} (s u : Operand)
    (ho : o.op = .call { callee := .builtin .append, args := #[s, u], argTypes := #[25, 25] })
    (lo : Nat) (v : Value) (n : Nat) (xs : List Int) (hs : a.eval s = v) (h : w.ownsRow lo 3 1 v n (ints xs)) (src : Value) (m : Nat) (ys : List Int)
    (hx : a.eval u = src) (hp : Part w 1 src m ys) (hn : n + m ≤ 1000000) (hbase : lo ≤ w.heap.size)
    (hK : ∀ v' w', w'.ownsRow lo 3 1 v' (n + m) (ints (xs ++ ys)) → w.grownBy w' v.ownBlock → K (a.put o.dst v') w') : Oper.wp Try.prog o a w K Q := by
  obtain ⟨i0, hi, hz0, hz1, hz2⟩ := info_parts intInfo
  obtain ⟨hl, ⟨rfl, rfl⟩ | ⟨ad, c, rfl, hc⟩⟩ := hp
  · obtain rfl : ys = [] := List.length_eq_zero_iff.1 (by omega)
    have hrun := run_append_owned_none (P := Try.prog) (w := w) lo 25 o.type 3 i0 1 Try.underlying25 hi v n (ints xs) h
    have := hK v w (by rw [List.append_nil]; exact h) ⟨rfl, rfl, rfl, Nat.le_refl _, fun _ _ _ => rfl⟩
    unfold Oper.wp
    simp [execOp, ho, resolve, invoke, builtin, hs, hx, hrun, Result.andThen]
    exact this
  · refine wp_append_own w s u 25 ho lo 3 i0 (.int .i64 0) 1 8 Try.underlying25 hi hz0 hz1 hz2 rfl (by decide) v n (ints xs) hs h ad m c (ints ys) hx (by rw [ints_length, hl]) (fun j x hj => ?_) (ints_one ys) (by unfold maxLen; omega) (by omega) hbase (fun v' w' h1 h2 _ => hK v' w' (by rw [ints_append]; exact h1) h2)
    have hj2 : j < m * 1 := by have := (List.getElem?_eq_some_iff.1 hj).1; rw [ints_length, hl] at this; exact this
    rw [ints_get ys j (by omega)] at hj
    rw [← Option.some.inj hj]
    exact hc j hj2
theorem step_intpart {w : World} {ops : Array Oper} {o : Oper} {a : Act} {K : Act → World → Prop} {Q : Exit → Act → World → Prop} {E : Prop} (hgd : o.guard = none) (s u : Operand)
    (ho : o.op = .call { callee := .builtin .append, args := #[s, u], argTypes := #[25, 25] })
    (lo : Nat) (v : Value) (n : Nat) (xs : List Int) (hs : a.eval s = v) (h : w.ownsRow lo 3 1 v n (ints xs)) (src : Value) (m : Nat) (ys : List Int)
    (hx : a.eval u = src) (hp : Part w 1 src m ys) (hn : n + m ≤ 1000000) (hbase : lo ≤ w.heap.size)
    (hK : ∀ v' w', w'.ownsRow lo 3 1 v' (n + m) (ints (xs ++ ys)) → w.grownBy w' v.ownBlock → K (a.put o.dst v') w') : if Region.wanted o (yielded ops a.tmps) = true then Oper.wp Try.prog o a w K Q else E := by
  have hw : Region.wanted o (yielded ops a.tmps) = true := by simp [Region.wanted, hgd]
  rw [if_pos hw]
  exact wp_intpart s u ho lo v n xs hs h src m ys hx hp hn hbase hK
theorem part_int1 {w : World} {g : Nat} {p : Int} (h : Blk w g 3 #[.int .i64 p]) : Part w 1 (.slice (some ⟨g, 0, none⟩) 1 1) 1 [p] := by
  refine ⟨rfl, .inr ⟨_, _, rfl, fun j hj => ?_⟩⟩
  rw [addAt, Nat.zero_add, h.cell]
  match j, hj with
  | 0, _ => rfl
theorem own_take {w : World} {lo k b c z : Nat} {xs : List Int} (h : w.ownsRow lo 3 1 (.slice (some ⟨b, 0, none⟩) k c) k (ints xs)) (hz : z ≤ k) : w.ownsRow lo 3 1 (.slice (some ⟨b, 0, none⟩) z c) z (ints (xs.take z)) := by
  have hl : xs.length = k := by have := h.1; rw [ints_length] at this; omega
  refine ⟨by rw [ints_length, List.length_take]; omega, ?_⟩
  rcases h.2 with ⟨hv, _⟩ | ⟨g, cap, cur, hv, hb, hg, hc, hm, hs, ht⟩
  · simp at hv
  · simp only [Value.slice.injEq, Option.some.injEq, Addr.mk.injEq, true_and] at hv
    obtain ⟨⟨rfl, _⟩, rfl⟩ := hv
    refine .inr ⟨b, c, cur, rfl, hb, hg, by omega, hm, hs, ?_⟩
    have h2 := congrArg (List.take z) ht
    rw [List.take_take] at h2
    rw [show z * 1 = min z (k * 1) by omega, h2]
    simp [ints, List.map_take]
theorem part_drop {w W : World} {lo B k b c z : Nat} {xs : List Int} (h : w.ownsRow lo 3 1 (.slice (some ⟨b, 0, none⟩) k c) k (ints xs)) (hb : Below B w W) (hbB : b < B) (hz : z ≤ k) : Part W 1 (.slice (some ⟨b, z, none⟩) (k - z) (c - z)) (k - z) (xs.drop z) := by
  have hl : xs.length = k := by have := h.1; rw [ints_length] at this; omega
  refine ⟨by rw [List.length_drop]; omega, .inr ⟨_, _, rfl, fun j hj => ?_⟩⟩
  rw [addAt]
  refine (hb.cell (p := ⟨b, z + j, none⟩) hbB).trans ((h.cellAt (z + j) (by omega)).trans ((ints_get xs (z + j) (by omega)).trans ?_))
  simp [List.getD_eq_getElem?_getD, List.getElem?_drop]
section
variable {a W W' : World} {B g N k : Nat} {u : Value} {xs : List Int}
theorem Ln.below (h : Ln a B g N W u k xs) (hb : Below W.heap.size W W') : Ln a B g N W' u k xs :=
  ⟨own_below h.own hb (Nat.le_refl _), h.cur.grown (row := none) ⟨hb.os, hb.tape, hb.output, hb.size, fun i hi _ => hb.block i hi⟩ (fun k hk => by cases hk), grow_trans h.only ⟨hb.os, hb.tape, hb.output, hb.size, fun i hi _ => hb.block i hi⟩⟩
theorem Ln.store {bl c i : Nat} {v : Int} (h : Ln a B g N W (.slice (some ⟨bl, 0, none⟩) k c) k xs) (hlt : g < a.heap.size) : Ln a B g N (W.setCell ⟨bl, i, none⟩ (.int .i64 v)) (.slice (some ⟨bl, 0, none⟩) k c) k (xs.set i v) := by
  have hs := h.own.stored i (.int .i64 v)
  have hb := (h.own.lt bl rfl).1
  exact ⟨by have := hs.1; rwa [ints_set] at this, h.cur.setCell (p := ⟨bl, i, none⟩) (by show g < bl; omega) _, only_set (p := ⟨bl, i, none⟩) h.only hb _⟩
end
set_option maxRecDepth 100000 in
set_option maxHeartbeats 4000000 in
theorem matching_any (B g N n : Nat) (hn : n ≤ 13) (w : World) (h : Cur w B g N) (hN : N ≤ 1000000) : Calls Try.prog 122 #[.pointer (some ⟨g, 0, none⟩), .int .i64 n] w fun e w' => ∃ (u : Value) (ps : List Int), e = .returned u ∧ Ln w B g (N + 100) w' u n ps := by
  have hlt := h.lt
  have L0 := Lib.hid (Ln.start h)
  clear h
  go_enter Try.func122, Try.ntmps122
  go_wp2_with fail
  go_loopw [5, 6] (fun u i wr => ∃ (k : Nat) (xs : List Int), k ≤ n ∧ i = .int .i64 k ∧ Ln w B g (N + 2 * k) wr u k xs) (fun _ i _ => n - (intOf i).toNat)
  case atStart => exact ⟨0, [], by omega, rfl, L0.out.le (by omega)⟩
  case round =>
    clear L0
    obtain ⟨k, xs, hk, rfl, hl⟩ := hrel
    obtain ⟨A, c, rfl⟩ := hl.form
    have L := Lib.hid hl
    clear hl
    by_cases hlk : k < n
    · have i1 := IntWalk.i64_in ((k : Int) + 1) (by omega)
      go_wp2_with fail
      refine (pick_any B g (N + 2 * k) ((k : Int) + 1) _ L.out.cur (by omega) (by omega)).mono ?_
      rintro e wx ⟨zq, zq0, zq1, rfl, hc, hg⟩
      have LX := Lib.hid (L.out.ask hlt hc hg)
      clear hc hg L
      obtain ⟨z, rfl⟩ := Int.eq_ofNat_of_zero_le zq0
      have hz : z ≤ k := by unfold pickHi at zq1; split at zq1 <;> omega
      have z0 : (0 : Int) ≤ (z : Int) := by omega
      have z1 : (z : Int) ≤ (k : Int) := by omega
      have hcap : k ≤ c := own_cap LX.out.own _ _ _ rfl
      clear zq1 zq0
      go_wp2_with fail
      have hzc : z ≤ c := by omega
      have hzc2 : ¬ c < z := by omega
      have hzk2 : ¬ k < z := by omega
      have hkc2 : ¬ c < k := by omega
      have z2 : (z : Int) ≤ (c : Int) := by omega
      rcases LX.out.own.2 with ⟨hv, -⟩ | ⟨bl, cap, cur, hv, -⟩
      · simp only [Value.slice.injEq] at hv
        obtain ⟨rfl, rfl, rfl⟩ := hv
        obtain rfl : z = 0 := by omega
        obtain ⟨Wx, eWx⟩ : ∃ W, wx = W := ⟨_, rfl⟩
        rw [eWx] at LX ⊢
        clear eWx
        have PT := Lib.hid (show Wx.ownsRow w.heap.size 3 1 (.slice none 0 0) 0 (ints (xs.take 0)) from World.ownsRow_nil _ _ _ _)
        have PD := Lib.hid (fun (W : World) (hb : Below Wx.heap.size Wx W) => (show Part W 1 (.slice none 0 0) (0 - 0) (xs.drop 0) from ⟨by have := LX.out.len; simp [this], .inl ⟨rfl, rfl⟩⟩))
        refine wp_region_held_drew (S := fun _ => True) (by kernel_rfl) trivial (fun hHeld => ?_)
        have HBx := Lib.hid (below_drewN (Below.refl Wx.heap.size Wx) 1)
        refine take_at (i := 0) (oi := _) 18 (v := .slice none 0 0) rfl rfl (by kernel_rfl) (by kernel_rfl) (by kernel_rfl) (fun _ _ _ h => h) (Or.inl ⟨by rfl, ?_⟩) hHeld ?_
        · (intro w hSw; (try dsimp only at hSw); go_split_ands; go_simp)
        simp only [List.setIfInBounds_toArray, List.set_cons_zero, List.set_cons_succ]
        refine take_at (i := 1) (oi := _) 19 (v := .int .i64 ((0 : Nat) : Int)) rfl rfl (by kernel_rfl) (by kernel_rfl) (by kernel_rfl) (fun _ _ _ h => h) (Or.inl ⟨by rfl, ?_⟩) hHeld ?_
        · (intro w hSw; (try dsimp only at hSw); go_split_ands; go_simp)
        simp only [List.setIfInBounds_toArray, List.set_cons_zero, List.set_cons_succ]
        refine take_at (i := 2) (oi := _) 20 (v := .slice none 0 0) rfl rfl (by kernel_rfl) (by kernel_rfl) (by kernel_rfl) (fun _ _ _ h => h) (Or.inl ⟨by rfl, ?_⟩) hHeld ?_
        · (intro w hSw; (try dsimp only at hSw); go_split_ands; go_simp)
        simp only [List.setIfInBounds_toArray, List.set_cons_zero, List.set_cons_succ]
        refine take_at (i := 4) (oi := _) 22 (v := .int .i64 ((0 : Nat) : Int)) rfl rfl (by kernel_rfl) (by kernel_rfl) (by kernel_rfl) (fun _ _ _ h => h) (Or.inl ⟨by rfl, ?_⟩) hHeld ?_
        · (intro w hSw; (try dsimp only at hSw); go_split_ands; go_simp)
        simp only [List.setIfInBounds_toArray, List.set_cons_zero, List.set_cons_succ]
        refine take_at (i := 7) (oi := _) 25 (v := .slice none 0 0) rfl rfl (by kernel_rfl) (by kernel_rfl) (by kernel_rfl) (fun _ _ _ h => h) (Or.inl ⟨by rfl, ?_⟩) hHeld ?_
        · (intro w hSw; (try dsimp only at hSw); go_split_ands; go_simp)
        simp only [List.setIfInBounds_toArray, List.set_cons_zero, List.set_cons_succ]
        refine take_at (i := 8) (oi := _) 26 (v := .int .i64 ((0 : Nat) : Int)) rfl rfl (by kernel_rfl) (by kernel_rfl) (by kernel_rfl) (fun _ _ _ h => h) (Or.inl ⟨by rfl, ?_⟩) hHeld ?_
        · (intro w hSw; (try dsimp only at hSw); go_split_ands; go_simp)
        simp only [List.setIfInBounds_toArray, List.set_cons_zero, List.set_cons_succ]
        refine take_at (i := 9) (oi := _) 27 (v := .slice none 0 0) rfl rfl (by kernel_rfl) (by kernel_rfl) (by kernel_rfl) (fun _ _ _ h => h) (Or.inl ⟨by rfl, ?_⟩) hHeld ?_
        · (intro w hSw; (try dsimp only at hSw); go_split_ands; go_simp)
        simp only [List.setIfInBounds_toArray, List.set_cons_zero, List.set_cons_succ]
        refine wpAnyH_ready (rs := [3, 5]) (by kernel_rfl) (by simp) ?_
        refine AllReadyH.cons (o := _) rfl (fun K9 hK => ?_) (AllReadyH.cons (o := _) rfl (fun K9 hK => ?_) AllReadyH.nil)
        · go_simp
          refine (l1Own_any _ w.heap.size 0 (xs.take 0) _ (own_below PT.out HBx.out (Nat.le_refl _)) (by omega)).mono ?_
          rintro e w9 ⟨v9, rfl, ho9, hb9⟩
          have H0 := Lib.hid (own_base (base' := Wx.heap.size) ho9 HBx.out.size)
          replace HBx := Lib.hid (below_on HBx.out hb9)
          clear ho9 hb9
          refine hK.out _ _ trivial (fun hHeld => ?_)
          clear hK K9
          try simp only [Act.put, List.setIfInBounds_toArray, List.set_cons_zero, List.set_cons_succ]
          refine wpAnyH_ready (rs := [5]) (by kernel_rfl) (by simp) ?_
          refine AllReadyH.cons (o := _) rfl (fun K9 hK => ?_) AllReadyH.nil
          go_simp
          have K6 := Lib.hid (Blk.new w9 3 #[.int .i64 ((0 : Nat) : Int)])
          replace HBx := Lib.hid (below_new HBx.out (.cells #[.int .i64 ((0 : Nat) : Int)] 3))
          replace H0 := Lib.hid (H0.out.alloc (.cells #[.int .i64 ((0 : Nat) : Int)] 3))
          refine hK.out _ _ trivial (fun hHeld => ?_)
          clear hK K9
          try simp only [Act.put, List.setIfInBounds_toArray, List.set_cons_zero, List.set_cons_succ]
          refine wpAnyH_ready (rs := [6]) (by kernel_rfl) (by simp) ?_
          refine AllReadyH.cons (o := _) rfl (fun K9 hK => ?_) AllReadyH.nil
          refine step_intpart rfl _ _ rfl Wx.heap.size _ 0 (xs.take 0) rfl H0.out _ 1 [((0 : Nat) : Int)] rfl (part_int1 K6.out) (by omega) HBx.out.size ?_
          intro v10 w10 ho10 hg10
          have hb10 := (Own.of H0.out).frame HBx.out (Nat.le_refl _) HBx.out.size hg10
          replace HBx := Lib.hid hb10
          have H1 := Lib.hid ho10
          clear ho10 hg10 hb10
          go_simp
          refine hK.out _ _ trivial (fun hHeld => ?_)
          clear hK K9
          try simp only [Act.put, List.setIfInBounds_toArray, List.set_cons_zero, List.set_cons_succ]
          refine wpAnyH_ready (rs := [10]) (by kernel_rfl) (by simp) ?_
          refine AllReadyH.cons (o := _) rfl (fun K9 hK => ?_) AllReadyH.nil
          refine step_intpart rfl _ _ rfl Wx.heap.size _ (0 + 1) _ rfl H1.out _ (0 - 0) (xs.drop 0) rfl (PD.out _ HBx.out) (by omega) HBx.out.size ?_
          intro v11 w11 ho11 hg11
          have hb11 := (Own.of H1.out).frame HBx.out (Nat.le_refl _) HBx.out.size hg11
          replace HBx := Lib.hid hb11
          have H2 := Lib.hid (own_cast (m := 0 + 1) ho11 (by omega) rfl)
          clear ho11 hg11 hb11
          go_simp
          refine hK.out _ _ trivial (fun hHeld => ?_)
          clear hK K9
          try simp only [Act.put, List.setIfInBounds_toArray, List.set_cons_zero, List.set_cons_succ]
          refine wpAnyH_ready (rs := [11]) (by kernel_rfl) (by simp) ?_
          refine AllReadyH.cons (o := _) rfl (fun K9 hK => ?_) AllReadyH.nil
          go_simp
          refine hK.out _ _ trivial (fun hHeld => ?_)
          clear hK K9
          try simp only [Act.put, List.setIfInBounds_toArray, List.set_cons_zero, List.set_cons_succ]
          refine wpAnyH_done (by kernel_rfl) ?_ _
          clear hHeld
          have LE := Lib.hid (LX.out.below HBx.out)
          have LN : Hid (Ln w B g (N + 2 * 0 + 2) _ _ (0 + 1) _) := Lib.hid ⟨own_base H2.out LX.out.only.size, LE.out.cur, LE.out.only⟩
          go_wp2_with fail
          go_roundw
          case rel => exact ⟨0 + 1, _, by omega, by go_num, LN.out.le (by omega)⟩
          case measure => simp [intOf]; omega
        · go_simp
          have K6 := Lib.hid (Blk.new Wx.drew 3 #[.int .i64 ((0 : Nat) : Int)])
          replace HBx := Lib.hid (below_new HBx.out (.cells #[.int .i64 ((0 : Nat) : Int)] 3))
          refine hK.out _ _ trivial (fun hHeld => ?_)
          clear hK K9
          try simp only [Act.put, List.setIfInBounds_toArray, List.set_cons_zero, List.set_cons_succ]
          refine wpAnyH_ready (rs := [3]) (by kernel_rfl) (by simp) ?_
          refine AllReadyH.cons (o := _) rfl (fun K9 hK => ?_) AllReadyH.nil
          go_simp
          refine (l1Own_any _ w.heap.size 0 (xs.take 0) _ (own_below PT.out HBx.out (Nat.le_refl _)) (by omega)).mono ?_
          rintro e w9 ⟨v9, rfl, ho9, hb9⟩
          have H0 := Lib.hid (own_base (base' := Wx.heap.size) ho9 HBx.out.size)
          replace HBx := Lib.hid (below_on HBx.out hb9)
          replace K6 := Lib.hid (K6.out.on hb9)
          clear ho9 hb9
          refine hK.out _ _ trivial (fun hHeld => ?_)
          clear hK K9
          try simp only [Act.put, List.setIfInBounds_toArray, List.set_cons_zero, List.set_cons_succ]
          refine wpAnyH_ready (rs := [6]) (by kernel_rfl) (by simp) ?_
          refine AllReadyH.cons (o := _) rfl (fun K9 hK => ?_) AllReadyH.nil
          refine step_intpart rfl _ _ rfl Wx.heap.size _ 0 (xs.take 0) rfl H0.out _ 1 [((0 : Nat) : Int)] rfl (part_int1 K6.out) (by omega) HBx.out.size ?_
          intro v10 w10 ho10 hg10
          have hb10 := (Own.of H0.out).frame HBx.out (Nat.le_refl _) HBx.out.size hg10
          replace HBx := Lib.hid hb10
          have H1 := Lib.hid ho10
          clear ho10 hg10 hb10
          go_simp
          refine hK.out _ _ trivial (fun hHeld => ?_)
          clear hK K9
          try simp only [Act.put, List.setIfInBounds_toArray, List.set_cons_zero, List.set_cons_succ]
          refine wpAnyH_ready (rs := [10]) (by kernel_rfl) (by simp) ?_
          refine AllReadyH.cons (o := _) rfl (fun K9 hK => ?_) AllReadyH.nil
          refine step_intpart rfl _ _ rfl Wx.heap.size _ (0 + 1) _ rfl H1.out _ (0 - 0) (xs.drop 0) rfl (PD.out _ HBx.out) (by omega) HBx.out.size ?_
          intro v11 w11 ho11 hg11
          have hb11 := (Own.of H1.out).frame HBx.out (Nat.le_refl _) HBx.out.size hg11
          replace HBx := Lib.hid hb11
          have H2 := Lib.hid (own_cast (m := 0 + 1) ho11 (by omega) rfl)
          clear ho11 hg11 hb11
          go_simp
          refine hK.out _ _ trivial (fun hHeld => ?_)
          clear hK K9
          try simp only [Act.put, List.setIfInBounds_toArray, List.set_cons_zero, List.set_cons_succ]
          refine wpAnyH_ready (rs := [11]) (by kernel_rfl) (by simp) ?_
          refine AllReadyH.cons (o := _) rfl (fun K9 hK => ?_) AllReadyH.nil
          go_simp
          refine hK.out _ _ trivial (fun hHeld => ?_)
          clear hK K9
          try simp only [Act.put, List.setIfInBounds_toArray, List.set_cons_zero, List.set_cons_succ]
          refine wpAnyH_done (by kernel_rfl) ?_ _
          clear hHeld
          have LE := Lib.hid (LX.out.below HBx.out)
          have LN : Hid (Ln w B g (N + 2 * 0 + 2) _ _ (0 + 1) _) := Lib.hid ⟨own_base H2.out LX.out.only.size, LE.out.cur, LE.out.only⟩
          go_wp2_with fail
          go_roundw
          case rel => exact ⟨0 + 1, _, by omega, by go_num, LN.out.le (by omega)⟩
          case measure => simp [intOf]; omega
      · simp only [Value.slice.injEq, true_and] at hv
        obtain ⟨rfl, rfl⟩ := hv
        by_cases hcz : c = z
        · subst hcz
          obtain rfl : c = k := by omega
          obtain ⟨Wx, eWx⟩ : ∃ W, wx = W := ⟨_, rfl⟩
          rw [eWx] at LX ⊢
          clear eWx
          have PT := Lib.hid (own_take LX.out.own hz)
          have PD := Lib.hid (fun (W : World) (hb : Below Wx.heap.size Wx W) => (show Part W 1 (.slice (some ⟨bl, 0, none⟩) 0 0) (c - c) (xs.drop c) from ⟨by have := LX.out.len; simp [this], .inr ⟨_, 0, by rw [Nat.sub_self], fun j hj => absurd hj (by omega)⟩⟩))
          refine wp_region_held_drew (S := fun _ => True) (by kernel_rfl) trivial (fun hHeld => ?_)
          have HBx := Lib.hid (below_drewN (Below.refl Wx.heap.size Wx) 1)
          refine take_at (i := 0) (oi := _) 18 (v := .slice (some ⟨bl, 0, none⟩) c c) rfl rfl (by kernel_rfl) (by kernel_rfl) (by kernel_rfl) (fun _ _ _ h => h) (Or.inl ⟨by rfl, ?_⟩) hHeld ?_
          · (intro w hSw; (try dsimp only at hSw); go_split_ands; go_simp)
          simp only [List.setIfInBounds_toArray, List.set_cons_zero, List.set_cons_succ]
          refine take_at (i := 1) (oi := _) 19 (v := .int .i64 ((c : Nat) : Int)) rfl rfl (by kernel_rfl) (by kernel_rfl) (by kernel_rfl) (fun _ _ _ h => h) (Or.inl ⟨by rfl, ?_⟩) hHeld ?_
          · (intro w hSw; (try dsimp only at hSw); go_split_ands; go_simp)
          simp only [List.setIfInBounds_toArray, List.set_cons_zero, List.set_cons_succ]
          refine take_at (i := 2) (oi := _) 20 (v := .slice (some ⟨bl, 0, none⟩) c c) rfl rfl (by kernel_rfl) (by kernel_rfl) (by kernel_rfl) (fun _ _ _ h => h) (Or.inl ⟨by rfl, ?_⟩) hHeld ?_
          · (intro w hSw; (try dsimp only at hSw); go_split_ands; go_simp)
          simp only [List.setIfInBounds_toArray, List.set_cons_zero, List.set_cons_succ]
          refine take_at (i := 4) (oi := _) 22 (v := .int .i64 ((c : Nat) : Int)) rfl rfl (by kernel_rfl) (by kernel_rfl) (by kernel_rfl) (fun _ _ _ h => h) (Or.inl ⟨by rfl, ?_⟩) hHeld ?_
          · (intro w hSw; (try dsimp only at hSw); go_split_ands; go_simp)
          simp only [List.setIfInBounds_toArray, List.set_cons_zero, List.set_cons_succ]
          refine take_at (i := 7) (oi := _) 25 (v := .slice (some ⟨bl, 0, none⟩) c c) rfl rfl (by kernel_rfl) (by kernel_rfl) (by kernel_rfl) (fun _ _ _ h => h) (Or.inl ⟨by rfl, ?_⟩) hHeld ?_
          · (intro w hSw; (try dsimp only at hSw); go_split_ands; go_simp)
          simp only [List.setIfInBounds_toArray, List.set_cons_zero, List.set_cons_succ]
          refine take_at (i := 8) (oi := _) 26 (v := .int .i64 ((c : Nat) : Int)) rfl rfl (by kernel_rfl) (by kernel_rfl) (by kernel_rfl) (fun _ _ _ h => h) (Or.inl ⟨by rfl, ?_⟩) hHeld ?_
          · (intro w hSw; (try dsimp only at hSw); go_split_ands; go_simp)
          simp only [List.setIfInBounds_toArray, List.set_cons_zero, List.set_cons_succ]
          refine take_at (i := 9) (oi := _) 27 (v := .slice (some ⟨bl, 0, none⟩) 0 0) rfl rfl (by kernel_rfl) (by kernel_rfl) (by kernel_rfl) (fun _ _ _ h => h) (Or.inl ⟨by rfl, ?_⟩) hHeld ?_
          · (intro w hSw; (try dsimp only at hSw); go_split_ands; go_simp)
          simp only [List.setIfInBounds_toArray, List.set_cons_zero, List.set_cons_succ]
          refine wpAnyH_ready (rs := [3, 5]) (by kernel_rfl) (by simp) ?_
          refine AllReadyH.cons (o := _) rfl (fun K9 hK => ?_) (AllReadyH.cons (o := _) rfl (fun K9 hK => ?_) AllReadyH.nil)
          · go_simp
            refine (l1Own_any _ w.heap.size c (xs.take c) _ (own_below PT.out HBx.out (Nat.le_refl _)) (by omega)).mono ?_
            rintro e w9 ⟨v9, rfl, ho9, hb9⟩
            have H0 := Lib.hid (own_base (base' := Wx.heap.size) ho9 HBx.out.size)
            replace HBx := Lib.hid (below_on HBx.out hb9)
            clear ho9 hb9
            refine hK.out _ _ trivial (fun hHeld => ?_)
            clear hK K9
            try simp only [Act.put, List.setIfInBounds_toArray, List.set_cons_zero, List.set_cons_succ]
            refine wpAnyH_ready (rs := [5]) (by kernel_rfl) (by simp) ?_
            refine AllReadyH.cons (o := _) rfl (fun K9 hK => ?_) AllReadyH.nil
            go_simp
            have K6 := Lib.hid (Blk.new w9 3 #[.int .i64 ((c : Nat) : Int)])
            replace HBx := Lib.hid (below_new HBx.out (.cells #[.int .i64 ((c : Nat) : Int)] 3))
            replace H0 := Lib.hid (H0.out.alloc (.cells #[.int .i64 ((c : Nat) : Int)] 3))
            refine hK.out _ _ trivial (fun hHeld => ?_)
            clear hK K9
            try simp only [Act.put, List.setIfInBounds_toArray, List.set_cons_zero, List.set_cons_succ]
            refine wpAnyH_ready (rs := [6]) (by kernel_rfl) (by simp) ?_
            refine AllReadyH.cons (o := _) rfl (fun K9 hK => ?_) AllReadyH.nil
            refine step_intpart rfl _ _ rfl Wx.heap.size _ c (xs.take c) rfl H0.out _ 1 [((c : Nat) : Int)] rfl (part_int1 K6.out) (by omega) HBx.out.size ?_
            intro v10 w10 ho10 hg10
            have hb10 := (Own.of H0.out).frame HBx.out (Nat.le_refl _) HBx.out.size hg10
            replace HBx := Lib.hid hb10
            have H1 := Lib.hid ho10
            clear ho10 hg10 hb10
            go_simp
            refine hK.out _ _ trivial (fun hHeld => ?_)
            clear hK K9
            try simp only [Act.put, List.setIfInBounds_toArray, List.set_cons_zero, List.set_cons_succ]
            refine wpAnyH_ready (rs := [10]) (by kernel_rfl) (by simp) ?_
            refine AllReadyH.cons (o := _) rfl (fun K9 hK => ?_) AllReadyH.nil
            refine step_intpart rfl _ _ rfl Wx.heap.size _ (c + 1) _ rfl H1.out _ (c - c) (xs.drop c) rfl (PD.out _ HBx.out) (by omega) HBx.out.size ?_
            intro v11 w11 ho11 hg11
            have hb11 := (Own.of H1.out).frame HBx.out (Nat.le_refl _) HBx.out.size hg11
            replace HBx := Lib.hid hb11
            have H2 := Lib.hid (own_cast (m := c + 1) ho11 (by omega) rfl)
            clear ho11 hg11 hb11
            go_simp
            refine hK.out _ _ trivial (fun hHeld => ?_)
            clear hK K9
            try simp only [Act.put, List.setIfInBounds_toArray, List.set_cons_zero, List.set_cons_succ]
            refine wpAnyH_ready (rs := [11]) (by kernel_rfl) (by simp) ?_
            refine AllReadyH.cons (o := _) rfl (fun K9 hK => ?_) AllReadyH.nil
            go_simp
            refine hK.out _ _ trivial (fun hHeld => ?_)
            clear hK K9
            try simp only [Act.put, List.setIfInBounds_toArray, List.set_cons_zero, List.set_cons_succ]
            refine wpAnyH_done (by kernel_rfl) ?_ _
            clear hHeld
            have LE := Lib.hid (LX.out.below HBx.out)
            have LN : Hid (Ln w B g (N + 2 * c + 2) _ _ (c + 1) _) := Lib.hid ⟨own_base H2.out LX.out.only.size, LE.out.cur, LE.out.only⟩
            go_wp2_with fail
            go_roundw
            case rel => exact ⟨c + 1, _, by omega, by go_num, LN.out.le (by omega)⟩
            case measure => simp [intOf]; omega
          · go_simp
            have K6 := Lib.hid (Blk.new Wx.drew 3 #[.int .i64 ((c : Nat) : Int)])
            replace HBx := Lib.hid (below_new HBx.out (.cells #[.int .i64 ((c : Nat) : Int)] 3))
            refine hK.out _ _ trivial (fun hHeld => ?_)
            clear hK K9
            try simp only [Act.put, List.setIfInBounds_toArray, List.set_cons_zero, List.set_cons_succ]
            refine wpAnyH_ready (rs := [3]) (by kernel_rfl) (by simp) ?_
            refine AllReadyH.cons (o := _) rfl (fun K9 hK => ?_) AllReadyH.nil
            go_simp
            refine (l1Own_any _ w.heap.size c (xs.take c) _ (own_below PT.out HBx.out (Nat.le_refl _)) (by omega)).mono ?_
            rintro e w9 ⟨v9, rfl, ho9, hb9⟩
            have H0 := Lib.hid (own_base (base' := Wx.heap.size) ho9 HBx.out.size)
            replace HBx := Lib.hid (below_on HBx.out hb9)
            replace K6 := Lib.hid (K6.out.on hb9)
            clear ho9 hb9
            refine hK.out _ _ trivial (fun hHeld => ?_)
            clear hK K9
            try simp only [Act.put, List.setIfInBounds_toArray, List.set_cons_zero, List.set_cons_succ]
            refine wpAnyH_ready (rs := [6]) (by kernel_rfl) (by simp) ?_
            refine AllReadyH.cons (o := _) rfl (fun K9 hK => ?_) AllReadyH.nil
            refine step_intpart rfl _ _ rfl Wx.heap.size _ c (xs.take c) rfl H0.out _ 1 [((c : Nat) : Int)] rfl (part_int1 K6.out) (by omega) HBx.out.size ?_
            intro v10 w10 ho10 hg10
            have hb10 := (Own.of H0.out).frame HBx.out (Nat.le_refl _) HBx.out.size hg10
            replace HBx := Lib.hid hb10
            have H1 := Lib.hid ho10
            clear ho10 hg10 hb10
            go_simp
            refine hK.out _ _ trivial (fun hHeld => ?_)
            clear hK K9
            try simp only [Act.put, List.setIfInBounds_toArray, List.set_cons_zero, List.set_cons_succ]
            refine wpAnyH_ready (rs := [10]) (by kernel_rfl) (by simp) ?_
            refine AllReadyH.cons (o := _) rfl (fun K9 hK => ?_) AllReadyH.nil
            refine step_intpart rfl _ _ rfl Wx.heap.size _ (c + 1) _ rfl H1.out _ (c - c) (xs.drop c) rfl (PD.out _ HBx.out) (by omega) HBx.out.size ?_
            intro v11 w11 ho11 hg11
            have hb11 := (Own.of H1.out).frame HBx.out (Nat.le_refl _) HBx.out.size hg11
            replace HBx := Lib.hid hb11
            have H2 := Lib.hid (own_cast (m := c + 1) ho11 (by omega) rfl)
            clear ho11 hg11 hb11
            go_simp
            refine hK.out _ _ trivial (fun hHeld => ?_)
            clear hK K9
            try simp only [Act.put, List.setIfInBounds_toArray, List.set_cons_zero, List.set_cons_succ]
            refine wpAnyH_ready (rs := [11]) (by kernel_rfl) (by simp) ?_
            refine AllReadyH.cons (o := _) rfl (fun K9 hK => ?_) AllReadyH.nil
            go_simp
            refine hK.out _ _ trivial (fun hHeld => ?_)
            clear hK K9
            try simp only [Act.put, List.setIfInBounds_toArray, List.set_cons_zero, List.set_cons_succ]
            refine wpAnyH_done (by kernel_rfl) ?_ _
            clear hHeld
            have LE := Lib.hid (LX.out.below HBx.out)
            have LN : Hid (Ln w B g (N + 2 * c + 2) _ _ (c + 1) _) := Lib.hid ⟨own_base H2.out LX.out.only.size, LE.out.cur, LE.out.only⟩
            go_wp2_with fail
            go_roundw
            case rel => exact ⟨c + 1, _, by omega, by go_num, LN.out.le (by omega)⟩
            case measure => simp [intOf]; omega
        · have hcz2 : ¬ z = c := by omega
          obtain ⟨Wx, eWx⟩ : ∃ W, wx = W := ⟨_, rfl⟩
          rw [eWx] at LX ⊢
          clear eWx
          have PT := Lib.hid (own_take LX.out.own hz)
          have PD := Lib.hid (fun (W : World) (hb : Below Wx.heap.size Wx W) => part_drop LX.out.own hb (LX.out.own.lt bl rfl).2 hz)
          refine wp_region_held_drew (S := fun _ => True) (by kernel_rfl) trivial (fun hHeld => ?_)
          have HBx := Lib.hid (below_drewN (Below.refl Wx.heap.size Wx) 1)
          refine take_at (i := 0) (oi := _) 18 (v := .slice (some ⟨bl, 0, none⟩) k c) rfl rfl (by kernel_rfl) (by kernel_rfl) (by kernel_rfl) (fun _ _ _ h => h) (Or.inl ⟨by rfl, ?_⟩) hHeld ?_
          · (intro w hSw; (try dsimp only at hSw); go_split_ands; go_simp)
          simp only [List.setIfInBounds_toArray, List.set_cons_zero, List.set_cons_succ]
          refine take_at (i := 1) (oi := _) 19 (v := .int .i64 ((z : Nat) : Int)) rfl rfl (by kernel_rfl) (by kernel_rfl) (by kernel_rfl) (fun _ _ _ h => h) (Or.inl ⟨by rfl, ?_⟩) hHeld ?_
          · (intro w hSw; (try dsimp only at hSw); go_split_ands; go_simp)
          simp only [List.setIfInBounds_toArray, List.set_cons_zero, List.set_cons_succ]
          refine take_at (i := 2) (oi := _) 20 (v := .slice (some ⟨bl, 0, none⟩) z c) rfl rfl (by kernel_rfl) (by kernel_rfl) (by kernel_rfl) (fun _ _ _ h => h) (Or.inl ⟨by rfl, ?_⟩) hHeld ?_
          · (intro w hSw; (try dsimp only at hSw); go_split_ands; go_simp)
          simp only [List.setIfInBounds_toArray, List.set_cons_zero, List.set_cons_succ]
          refine take_at (i := 4) (oi := _) 22 (v := .int .i64 ((k : Nat) : Int)) rfl rfl (by kernel_rfl) (by kernel_rfl) (by kernel_rfl) (fun _ _ _ h => h) (Or.inl ⟨by rfl, ?_⟩) hHeld ?_
          · (intro w hSw; (try dsimp only at hSw); go_split_ands; go_simp)
          simp only [List.setIfInBounds_toArray, List.set_cons_zero, List.set_cons_succ]
          refine take_at (i := 7) (oi := _) 25 (v := .slice (some ⟨bl, 0, none⟩) k c) rfl rfl (by kernel_rfl) (by kernel_rfl) (by kernel_rfl) (fun _ _ _ h => h) (Or.inl ⟨by rfl, ?_⟩) hHeld ?_
          · (intro w hSw; (try dsimp only at hSw); go_split_ands; go_simp)
          simp only [List.setIfInBounds_toArray, List.set_cons_zero, List.set_cons_succ]
          refine take_at (i := 8) (oi := _) 26 (v := .int .i64 ((z : Nat) : Int)) rfl rfl (by kernel_rfl) (by kernel_rfl) (by kernel_rfl) (fun _ _ _ h => h) (Or.inl ⟨by rfl, ?_⟩) hHeld ?_
          · (intro w hSw; (try dsimp only at hSw); go_split_ands; go_simp)
          simp only [List.setIfInBounds_toArray, List.set_cons_zero, List.set_cons_succ]
          refine take_at (i := 9) (oi := _) 27 (v := .slice (some ⟨bl, z, none⟩) (k - z) (c - z)) rfl rfl (by kernel_rfl) (by kernel_rfl) (by kernel_rfl) (fun _ _ _ h => h) (Or.inl ⟨by rfl, ?_⟩) hHeld ?_
          · (intro w hSw; (try dsimp only at hSw); go_split_ands; go_simp)
          simp only [List.setIfInBounds_toArray, List.set_cons_zero, List.set_cons_succ]
          refine wpAnyH_ready (rs := [3, 5]) (by kernel_rfl) (by simp) ?_
          refine AllReadyH.cons (o := _) rfl (fun K9 hK => ?_) (AllReadyH.cons (o := _) rfl (fun K9 hK => ?_) AllReadyH.nil)
          · go_simp
            refine (l1Own_any _ w.heap.size z (xs.take z) _ (own_below PT.out HBx.out (Nat.le_refl _)) (by omega)).mono ?_
            rintro e w9 ⟨v9, rfl, ho9, hb9⟩
            have H0 := Lib.hid (own_base (base' := Wx.heap.size) ho9 HBx.out.size)
            replace HBx := Lib.hid (below_on HBx.out hb9)
            clear ho9 hb9
            refine hK.out _ _ trivial (fun hHeld => ?_)
            clear hK K9
            try simp only [Act.put, List.setIfInBounds_toArray, List.set_cons_zero, List.set_cons_succ]
            refine wpAnyH_ready (rs := [5]) (by kernel_rfl) (by simp) ?_
            refine AllReadyH.cons (o := _) rfl (fun K9 hK => ?_) AllReadyH.nil
            go_simp
            have K6 := Lib.hid (Blk.new w9 3 #[.int .i64 ((k : Nat) : Int)])
            replace HBx := Lib.hid (below_new HBx.out (.cells #[.int .i64 ((k : Nat) : Int)] 3))
            replace H0 := Lib.hid (H0.out.alloc (.cells #[.int .i64 ((k : Nat) : Int)] 3))
            refine hK.out _ _ trivial (fun hHeld => ?_)
            clear hK K9
            try simp only [Act.put, List.setIfInBounds_toArray, List.set_cons_zero, List.set_cons_succ]
            refine wpAnyH_ready (rs := [6]) (by kernel_rfl) (by simp) ?_
            refine AllReadyH.cons (o := _) rfl (fun K9 hK => ?_) AllReadyH.nil
            refine step_intpart rfl _ _ rfl Wx.heap.size _ z (xs.take z) rfl H0.out _ 1 [((k : Nat) : Int)] rfl (part_int1 K6.out) (by omega) HBx.out.size ?_
            intro v10 w10 ho10 hg10
            have hb10 := (Own.of H0.out).frame HBx.out (Nat.le_refl _) HBx.out.size hg10
            replace HBx := Lib.hid hb10
            have H1 := Lib.hid ho10
            clear ho10 hg10 hb10
            go_simp
            refine hK.out _ _ trivial (fun hHeld => ?_)
            clear hK K9
            try simp only [Act.put, List.setIfInBounds_toArray, List.set_cons_zero, List.set_cons_succ]
            refine wpAnyH_ready (rs := [10]) (by kernel_rfl) (by simp) ?_
            refine AllReadyH.cons (o := _) rfl (fun K9 hK => ?_) AllReadyH.nil
            refine step_intpart rfl _ _ rfl Wx.heap.size _ (z + 1) _ rfl H1.out _ (k - z) (xs.drop z) rfl (PD.out _ HBx.out) (by omega) HBx.out.size ?_
            intro v11 w11 ho11 hg11
            have hb11 := (Own.of H1.out).frame HBx.out (Nat.le_refl _) HBx.out.size hg11
            replace HBx := Lib.hid hb11
            have H2 := Lib.hid (own_cast (m := k + 1) ho11 (by omega) rfl)
            clear ho11 hg11 hb11
            go_simp
            refine hK.out _ _ trivial (fun hHeld => ?_)
            clear hK K9
            try simp only [Act.put, List.setIfInBounds_toArray, List.set_cons_zero, List.set_cons_succ]
            refine wpAnyH_ready (rs := [11]) (by kernel_rfl) (by simp) ?_
            refine AllReadyH.cons (o := _) rfl (fun K9 hK => ?_) AllReadyH.nil
            go_simp
            refine hK.out _ _ trivial (fun hHeld => ?_)
            clear hK K9
            try simp only [Act.put, List.setIfInBounds_toArray, List.set_cons_zero, List.set_cons_succ]
            refine wpAnyH_done (by kernel_rfl) ?_ _
            clear hHeld
            have LE := Lib.hid (LX.out.below HBx.out)
            have LN : Hid (Ln w B g (N + 2 * k + 2) _ _ (k + 1) _) := Lib.hid ⟨own_base H2.out LX.out.only.size, LE.out.cur, LE.out.only⟩
            go_wp2_with fail
            go_roundw
            case rel => exact ⟨k + 1, _, by omega, by go_num, LN.out.le (by omega)⟩
            case measure => simp [intOf]; omega
          · go_simp
            have K6 := Lib.hid (Blk.new Wx.drew 3 #[.int .i64 ((k : Nat) : Int)])
            replace HBx := Lib.hid (below_new HBx.out (.cells #[.int .i64 ((k : Nat) : Int)] 3))
            refine hK.out _ _ trivial (fun hHeld => ?_)
            clear hK K9
            try simp only [Act.put, List.setIfInBounds_toArray, List.set_cons_zero, List.set_cons_succ]
            refine wpAnyH_ready (rs := [3]) (by kernel_rfl) (by simp) ?_
            refine AllReadyH.cons (o := _) rfl (fun K9 hK => ?_) AllReadyH.nil
            go_simp
            refine (l1Own_any _ w.heap.size z (xs.take z) _ (own_below PT.out HBx.out (Nat.le_refl _)) (by omega)).mono ?_
            rintro e w9 ⟨v9, rfl, ho9, hb9⟩
            have H0 := Lib.hid (own_base (base' := Wx.heap.size) ho9 HBx.out.size)
            replace HBx := Lib.hid (below_on HBx.out hb9)
            replace K6 := Lib.hid (K6.out.on hb9)
            clear ho9 hb9
            refine hK.out _ _ trivial (fun hHeld => ?_)
            clear hK K9
            try simp only [Act.put, List.setIfInBounds_toArray, List.set_cons_zero, List.set_cons_succ]
            refine wpAnyH_ready (rs := [6]) (by kernel_rfl) (by simp) ?_
            refine AllReadyH.cons (o := _) rfl (fun K9 hK => ?_) AllReadyH.nil
            refine step_intpart rfl _ _ rfl Wx.heap.size _ z (xs.take z) rfl H0.out _ 1 [((k : Nat) : Int)] rfl (part_int1 K6.out) (by omega) HBx.out.size ?_
            intro v10 w10 ho10 hg10
            have hb10 := (Own.of H0.out).frame HBx.out (Nat.le_refl _) HBx.out.size hg10
            replace HBx := Lib.hid hb10
            have H1 := Lib.hid ho10
            clear ho10 hg10 hb10
            go_simp
            refine hK.out _ _ trivial (fun hHeld => ?_)
            clear hK K9
            try simp only [Act.put, List.setIfInBounds_toArray, List.set_cons_zero, List.set_cons_succ]
            refine wpAnyH_ready (rs := [10]) (by kernel_rfl) (by simp) ?_
            refine AllReadyH.cons (o := _) rfl (fun K9 hK => ?_) AllReadyH.nil
            refine step_intpart rfl _ _ rfl Wx.heap.size _ (z + 1) _ rfl H1.out _ (k - z) (xs.drop z) rfl (PD.out _ HBx.out) (by omega) HBx.out.size ?_
            intro v11 w11 ho11 hg11
            have hb11 := (Own.of H1.out).frame HBx.out (Nat.le_refl _) HBx.out.size hg11
            replace HBx := Lib.hid hb11
            have H2 := Lib.hid (own_cast (m := k + 1) ho11 (by omega) rfl)
            clear ho11 hg11 hb11
            go_simp
            refine hK.out _ _ trivial (fun hHeld => ?_)
            clear hK K9
            try simp only [Act.put, List.setIfInBounds_toArray, List.set_cons_zero, List.set_cons_succ]
            refine wpAnyH_ready (rs := [11]) (by kernel_rfl) (by simp) ?_
            refine AllReadyH.cons (o := _) rfl (fun K9 hK => ?_) AllReadyH.nil
            go_simp
            refine hK.out _ _ trivial (fun hHeld => ?_)
            clear hK K9
            try simp only [Act.put, List.setIfInBounds_toArray, List.set_cons_zero, List.set_cons_succ]
            refine wpAnyH_done (by kernel_rfl) ?_ _
            clear hHeld
            have LE := Lib.hid (LX.out.below HBx.out)
            have LN : Hid (Ln w B g (N + 2 * k + 2) _ _ (k + 1) _) := Lib.hid ⟨own_base H2.out LX.out.only.size, LE.out.cur, LE.out.only⟩
            go_wp2_with fail
            go_roundw
            case rel => exact ⟨k + 1, _, by omega, by go_num, LN.out.le (by omega)⟩
            case measure => simp [intOf]; omega
    · obtain rfl : k = n := by omega
      by_cases h0 : 0 < k
      · have d0 : decide ((0 : Int) < (k : Int)) = true := by simp; omega
        obtain ⟨bl, rfl, hbl⟩ := own_start L.out.own h0
        go_wp2_with fail
        refine (one_any B g (N + 2 * k) 16 _ L.out.cur (by omega) (by omega)).mono ?_
        rintro e w1 ⟨b, rfl, hc, hg⟩
        replace L := Lib.hid (L.out.ask hlt hc hg)
        clear hc hg
        cases b with
        | false =>
          go_wp2_with fail
          go_ret
          exact ⟨_, _, rfl, L.out.le (by omega)⟩
        | true =>
          go_wp2_with fail
          refine (pick_any B g (N + 2 * k + 2) (k : Int) _ L.out.cur (by omega) (by omega)).mono ?_
          rintro e w2 ⟨zq, zq0, zq1, rfl, hc, hg⟩
          replace L := Lib.hid (L.out.ask hlt hc hg)
          clear hc hg
          obtain ⟨z, rfl⟩ := Int.eq_ofNat_of_zero_le zq0
          have hz : z < k := by unfold pickHi at zq1; split at zq1 <;> omega
          have z0 : (0 : Int) ≤ (z : Int) := by omega
          have z1 : (z : Int) < (k : Int) := by omega
          have i1 := IntWalk.i64_in ((k : Int) - 1) (by omega)
          have KA := Lib.hid (Blk.new w2 3 (ints [-1, 0, (k : Int) - 1, (k : Int)]).toArray)
          have hgl := L.out.cur.lt
          replace L := Lib.hid (L.out.alloc (.cells (ints [-1, 0, (k : Int) - 1, (k : Int)]).toArray 3))
          clear zq1 zq0 d0
          go_wp2_with fail
          refine (among_blk B g (N + 2 * k + 2 + 2) w2.heap.size _ [-1, 0, (k : Int) - 1, (k : Int)] (-1) 13 _ L.out.cur (by omega) hgl KA.out (by simp) (by simp) (by
            intro x hx
            simp at hx
            omega)).mono ?_
          rintro e w3 ⟨q, q0, q1, rfl, hc, hg⟩
          replace L := Lib.hid (L.out.ask hlt hc hg)
          clear hc hg KA
          have hxl := L.out.len
          have c0 := (L.out.own.cellAt z (by omega)).trans (ints_get xs _ (by omega))
          have f0 := L.out.own.frozenAt z
          have L1 := Lib.hid (L.out.store (i := z) (v := q) hlt)
          clear hxl L
          go_wp2_with fail
          go_ret
          exact ⟨_, _, rfl, L1.out.le (by omega)⟩
      · obtain rfl : k = 0 := by omega
        clear h0
        go_wp2_with fail
        go_ret
        exact ⟨_, _, rfl, L.out.le (by omega)⟩
end Go.Proofs.Ytjcepipgjpaclaa

namespace Go.Proofs.Ytjcepipgjpaclaa
open Go.RowKit

theorem l1Most_q (a b : Int) (w : World) : Calls Try.prog 150 #[.int .i64 a, .int .i64 b] w fun e w' => e = .returned (.int .i64 (max a b)) ∧ w = w' := by
  by_cases h : b < a
  · have hf := Lib.hid (show max a b = a by omega)
    go_enter Try.func150, Try.ntmps150
    go_wp2_with fail
    go_ret
    exact ⟨by rw [hf.out]; rfl, rfl⟩
  · have hf := Lib.hid (show max a b = b by omega)
    go_enter Try.func150, Try.ntmps150
    go_wp2_with fail
    go_ret
    exact ⟨by rw [hf.out]; rfl, rfl⟩
theorem chHas_yes (v : Value) (n B : Nat) (xs : List Int) (i : Int) (w : World) (hcp : Cap v) (hv : Rd w B 2 v n xs) (hB : B ≤ w.heap.size) (hn : n ≤ 1000) (hg : chB n xs = true) (h0 : 0 ≤ i) (h1 : i < n) :
    Calls Try.prog 168 #[v, .int .i64 i] w fun e w' => e = .returned (.bool true) ∧ Below w.heap.size w w' := by
  have P := chGood_any v n B xs w hcp hv hB (by omega)
  rw [hg] at P
  obtain ⟨A, c, rfl⟩ := hv.form
  have i1 := IntWalk.i64_in ((n : Int) - 1) (by omega)
  have HE := Lib.hid (show inB i 0 ((n : Int) - 1) = true from inB_mk (by omega) (by omega))
  go_enter Try.func168, Try.ntmps168
  go_wp2_with fail
  refine P.mono ?_
  rintro e w2 ⟨rfl, hb⟩
  go_wp2_with fail
  refine (l1In_any i 0 ((n : Int) - 1) _).mono ?_
  rintro e w3 ⟨rfl, rfl⟩
  go_wp2_with fail
  go_ret
  exact ⟨by rw [HE.out]; rfl, hb⟩
set_option maxHeartbeats 2000000 in
theorem SwapPerformers_ends (v : Value) (lo n : Nat) (xs : List Int) (w : World) (hv : w.ownsRow lo 45 2 v n (ints xs)) (hn : n ≤ 1000) (hn2 : 2 ≤ n) (hg : chB n xs = true) :
    Calls Try.prog 154 #[v, .int .i64 0, .int .i64 ((n - 1 : Nat) : Int)] w fun e w' => ∃ u ys, e = .returned (.tuple #[u, .bool true]) ∧ w'.ownsRow w.heap.size 45 2 u n (ints ys) ∧ Below w.heap.size w w' := by
  have hcp := own_cap hv
  have HV := Lib.hid (fun W (hb : Below w.heap.size w W) => own_below hv hb (Nat.le_refl _))
  have P := Lib.hid (fun (i : Int) (h0 : 0 ≤ i) (h1 : i < n) W (hb : Below w.heap.size w W) => chHas_yes _ n W.heap.size xs i W hcp (Rd.of_own (own_below hv hb (Nat.le_refl _))) (Nat.le_refl _) hn hg h0 h1)
  have hxl : xs.length = n * 2 := by have := hv.1; rwa [ints_length] at this
  obtain ⟨bl, cv, rfl, hbl, -⟩ : ∃ b c, v = .slice (some ⟨b, 0, none⟩) n c ∧ lo ≤ b ∧ b < w.heap.size := by
    have hl := hv.lt
    rcases hv.2 with ⟨rfl, h0⟩ | ⟨g, cap, cur, rfl, _⟩
    · omega
    · exact ⟨g, cap, rfl, hl g rfl⟩
  obtain ⟨z, ez⟩ : ∃ z, n - 1 = z := ⟨_, rfl⟩
  have hz : z < n := by omega
  have z0 : (0 : Int) ≤ (z : Int) := by omega
  have z1 : (z : Int) < (n : Int) := by omega
  have z2 : (0 : Int) < (n : Int) := by omega
  have z3 : ¬ z = 0 := by omega
  have z4 : ¬ z * 2 = 0 := by omega
  have z5 : ¬ z * 2 = 1 := by omega
  have z6 : ¬ 0 = z * 2 := by omega
  have z7 : ¬ 1 = z * 2 := by omega
  rw [ez]
  clear hv hcp hg ez
  go_enter Try.func154, Try.ntmps154
  go_wp2_with fail
  refine (P.out 0 (by omega) (by omega) _ (Below.refl _ _)).mono ?_
  rintro e w2 ⟨rfl, hb⟩
  have HB := Lib.hid hb
  clear hb
  go_wp2_with fail
  refine (P.out z z0 z1 _ HB.out).mono ?_
  rintro e w3 ⟨rfl, hb⟩
  have HB2 := Lib.hid (below_on HB.out hb)
  clear hb HB
  go_wp2_with fail
  refine (chOwn_any _ lo n xs _ (HV.out _ HB2.out) hn).mono ?_
  rintro e w4 ⟨u, rfl, ho, hb⟩
  obtain ⟨bu, cu, rfl, hbu, hbu2⟩ : ∃ b c, u = .slice (some ⟨b, 0, none⟩) n c ∧ w3.heap.size ≤ b ∧ b < w4.heap.size := by
    have hl := ho.lt
    rcases ho.2 with ⟨rfl, h0⟩ | ⟨g, cap, cur, rfl, _⟩
    · omega
    · exact ⟨g, cap, rfl, hl g rfl⟩
  have HB3 := Lib.hid (below_on HB2.out hb)
  have hv4 := HV.out _ HB3.out
  have hne : bl ≠ bu := by have := ((HV.out _ HB2.out).lt bl rfl).2; omega
  have c0 := (hv4.cellAt (z * 2) (by omega)).trans (ints_get xs _ (by omega))
  have c1 := (hv4.cellAt (z * 2 + 1) (by omega)).trans (ints_get xs _ (by omega))
  have c2 := (hv4.cellAt 0 (by omega)).trans (ints_get xs _ (by omega))
  have c3 := (hv4.cellAt 1 (by omega)).trans (ints_get xs _ (by omega))
  have d0 := (ho.cellAt (z * 2) (by omega)).trans (ints_get xs _ (by omega))
  have d1 := (ho.cellAt (z * 2 + 1) (by omega)).trans (ints_get xs _ (by omega))
  have d2 := (ho.cellAt 0 (by omega)).trans (ints_get xs _ (by omega))
  have d3 := (ho.cellAt 1 (by omega)).trans (ints_get xs _ (by omega))
  have f0 := ho.frozenAt (z * 2)
  have f1 := ho.frozenAt (z * 2 + 1)
  have f2 := ho.frozenAt 0
  have f3 := ho.frozenAt 1
  obtain ⟨p, ep⟩ : ∃ q, xs.getD (z * 2) 0 = q := ⟨_, rfl⟩
  obtain ⟨q, eq⟩ : ∃ q, xs.getD (z * 2 + 1) 0 = q := ⟨_, rfl⟩
  obtain ⟨r, er⟩ : ∃ q, xs.getD 0 0 = q := ⟨_, rfl⟩
  obtain ⟨s, es⟩ : ∃ q, xs.getD 1 0 = q := ⟨_, rfl⟩
  rw [ep] at c0 d0
  rw [eq] at c1 d1
  rw [er] at c2 d2
  rw [es] at c3 d3
  have ho2 := ((((ho.stored 0 (.int .i64 p)).1.stored 1 (.int .i64 q)).1.stored (z * 2) (.int .i64 r)).1.stored (z * 2 + 1) (.int .i64 s)).1
  rw [ints_set, ints_set, ints_set, ints_set] at ho2
  have HO := Lib.hid (own_base ho2 HB2.out.size)
  have hwb : w.heap.size ≤ bu := Nat.le_trans HB2.out.size hbu
  have HB4 := Lib.hid ((((HB3.out.setCell (p := ⟨bu, 0, none⟩) hwb (.int .i64 p)).setCell (p := ⟨bu, 1, none⟩) hwb (.int .i64 q)).setCell (p := ⟨bu, z * 2, none⟩) hwb (.int .i64 r)).setCell (p := ⟨bu, z * 2 + 1, none⟩) hwb (.int .i64 s))
  clear ep eq er es hv4 ho ho2 hb HB2 P HV hxl
  go_wp2_with fail
  go_ret2
  exact ⟨_, _, rfl, HO.out, HB4.out⟩
end Go.Proofs.Ytjcepipgjpaclaa
