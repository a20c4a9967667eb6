/- A drawn chart of up to twelve spots. Condition: the source's bytes can be read. A drawn chart, mostly a valid one. Condition: the source's bytes can be read. -/
import Derived.Test.YtnlneblipedddaaPFnTransitions42
namespace Go.Proofs.Ytnlneblipedddaa
open Go.RowKit

theorem Lso.since {a b W : World} {B g N k : Nat} {u : Value} {xs : List Int} (h : Lso b B g N W u k xs) (hg : a.grownBy b (some g)) : Lso a B g N W u k xs := ⟨own_base h.own hg.size, h.cur, grow_trans hg h.only⟩
set_option maxRecDepth 100000 in
set_option maxHeartbeats 1000000 in
theorem chart_any (B g N : Nat) (w : World) (h : Cur w B g N) (hN : N ≤ 10000000) : Calls Try.prog 96 #[.pointer (some ⟨g, 0, none⟩)] w fun e w' => ∃ (n : Nat) (u : Value) (xs : List Int), (1 ≤ n ∧ n ≤ 12) ∧ e = .returned u ∧ Lso w B g (N + 10010) w' u n xs := by
  have C0 := Lib.hid h
  clear h
  go_enter Try.func96, Try.ntmps96
  go_wp2_with fail
  refine (one_any B g N 20 _ C0.out (by omega) (by omega)).mono ?_
  rintro e w1 ⟨b, rfl, hc, hg⟩
  cases b with
  | true =>
    go_wp2_with fail
    refine (chartOf_any B g (N + 2) 12 (by omega) _ hc (by omega)).mono ?_
    rintro e w2 ⟨u, xs, rfl, hl⟩
    have L := Lib.hid (hl.since hg)
    clear hl hc hg
    go_wp2_with fail
    go_ret
    exact ⟨12, u, xs, by omega, rfl, L.out.le (by omega)⟩
  | false =>
    go_wp2_with fail
    refine (pick_any B g (N + 2) 6 _ hc (by omega) (by omega)).mono ?_
    rintro e w2 ⟨x, x0, x1, rfl, hc2, hg2⟩
    simp [pickHi] at x1
    have HG := Lib.hid (grow_trans hg hg2)
    have HC := Lib.hid hc2
    clear hc hg hc2 hg2
    obtain ⟨n, en⟩ : ∃ n : Nat, 1 + x = (n : Int) := ⟨(1 + x).toNat, by omega⟩
    have hn : 1 ≤ n ∧ n ≤ 6 := by omega
    go_wp2_with fail
    refine (chartOf_any B g (N + 4) n (by omega) _ HC.out (by omega)).mono ?_
    rintro e w3 ⟨u, xs, rfl, hl⟩
    have L := Lib.hid (hl.since HG.out)
    clear hl
    go_wp2_with fail
    go_ret
    exact ⟨n, u, xs, by omega, rfl, L.out.le (by omega)⟩
end Go.Proofs.Ytnlneblipedddaa

namespace Go.Proofs.Ytnlneblipedddaa
open Go.RowKit

theorem Lso.store {a W : World} {B g N k bl c i : Nat} {xs : List Int} {v : Int} (h : Lso a B g N W (.slice (some ⟨bl, 0, none⟩) k c) k xs) (hlt : g < a.heap.size) : Lso a B g N (W.setCell ⟨bl, i, none⟩ (.int .i64 v)) (.slice (some ⟨bl, 0, none⟩) k c) k (xs.set i v) := by
  have hs := h.own.stored i (.int .i64 v)
  have hb := (h.own.lt bl rfl).1
  exact ⟨by have := hs.1; rwa [ints_set] at this, h.cur.setCell (p := ⟨bl, i, none⟩) (by show g < bl; omega) _, only_set (p := ⟨bl, i, none⟩) h.only hb _⟩
set_option maxRecDepth 100000 in
set_option maxHeartbeats 4000000 in
theorem anyChart_any (B g N : Nat) (w : World) (h : Cur w B g N) (hN : N ≤ 1000000) : Calls Try.prog 85 #[.pointer (some ⟨g, 0, none⟩)] w fun e w' => ∃ (n : Nat) (u : Value) (xs : List Int), n ≤ 13 ∧ e = .returned u ∧ Lso w B g (N + 30000) w' u n xs := by
  have hlt := h.lt
  have C0 := Lib.hid h
  clear h
  go_enter Try.func85, Try.ntmps85
  go_wp2_with fail
  refine (chart_any B g N _ C0.out (by omega)).mono ?_
  rintro e w1 ⟨n, u, xs, hn, rfl, hl⟩
  obtain ⟨A, c, rfl⟩ := hl.form
  have L := Lib.hid hl
  clear hl C0
  go_wp2_with fail
  refine (pick_any B g (N + 10010) (n : Int) _ L.out.cur (by omega) (by omega)).mono ?_
  rintro e w2 ⟨zq, zq0, zq1, rfl, hc, hg⟩
  replace L := Lib.hid (L.out.ask hlt hc hg)
  clear hc hg
  obtain ⟨z, rfl⟩ := Int.eq_ofNat_of_zero_le zq0
  have hz : z < n := by unfold pickHi at zq1; split at zq1 <;> omega
  obtain ⟨bl, rfl, hbl⟩ := own_at L.out.own (by omega)
  have i0 : (0 : Int) ≤ (z : Int) := by omega
  have i1 : (z : Int) < (n : Int) := by omega
  have i2 : (0 : Int) < (n : Int) := by omega
  clear zq1
  go_wp2_with fail
  refine (pick_any B g (N + 10012) 30 _ L.out.cur (by omega) (by omega)).mono ?_
  rintro e w3 ⟨x, x0, x1, rfl, hc, hg⟩
  simp [pickHi] at x1
  replace L := Lib.hid (L.out.ask hlt hc hg)
  clear hc hg
  by_cases e0 : x = 0
  · subst e0
    go_wp2_with fail
    refine (anySpot_any B g (N + 10014) _ L.out.cur (by omega)).mono ?_
    rintro e w4 ⟨p, q, -, rfl, hc, hg⟩
    replace L := Lib.hid (L.out.ask hlt hc hg)
    clear hc hg
    have hxl := L.out.len
    have s0 := (L.out.own.cellAt (z * 2) (by omega)).trans (ints_get xs _ (by omega))
    have s1 := (L.out.own.cellAt (z * 2 + 1) (by omega)).trans (ints_get xs _ (by omega))
    have f0 := L.out.own.frozenAt (z * 2)
    have f1 := L.out.own.frozenAt (z * 2 + 1)
    have L1 := Lib.hid ((L.out.store (i := z * 2) (v := p) hlt).store (i := z * 2 + 1) (v := q) hlt)
    clear hxl L
    go_wp2_with fail
    go_ret
    exact ⟨n, _, _, by omega, rfl, L1.out.le (by omega)⟩
  · have n0 : (x == 0) = false := by simpa using e0
    by_cases e1 : x = 1
    · subst e1
      have hxl := L.out.len
      have c0 := (L.out.own.cellAt 0 (by omega)).trans (ints_get xs _ (by omega))
      have c1 := (L.out.own.cellAt 1 (by omega)).trans (ints_get xs _ (by omega))
      have s0 := (L.out.own.cellAt (z * 2) (by omega)).trans (ints_get xs _ (by omega))
      have s1 := (L.out.own.cellAt (z * 2 + 1) (by omega)).trans (ints_get xs _ (by omega))
      have f0 := L.out.own.frozenAt (z * 2)
      have f1 := L.out.own.frozenAt (z * 2 + 1)
      have L1 := Lib.hid ((L.out.store (i := z * 2) (v := xs.getD 0 0) hlt).store (i := z * 2 + 1) (v := xs.getD 1 0) hlt)
      clear hxl L
      go_wp2_with fail
      go_ret
      exact ⟨n, _, _, by omega, rfl, L1.out.le (by omega)⟩
    · have n1 : (x == 1) = false := by simpa using e1
      by_cases e2 : x = 2
      · subst e2
        go_wp2_with fail
        go_ret
        exact ⟨0, _, [], by omega, rfl, ⟨World.ownsRow_nil _ _ _ _, (L.out.le (by omega)).cur, L.out.only⟩⟩
      · have n2 : (x == 2) = false := by simpa using e2
        by_cases e3 : x = 3
        · subst e3
          have HG := Lib.hid L.out.only
          go_wp2_with fail
          refine (chartOf_any B g (N + 10014) 13 (by omega) _ L.out.cur (by omega)).mono ?_
          rintro e w4 ⟨u, ys, rfl, hl⟩
          have L1 := Lib.hid (hl.since HG.out)
          clear hl
          go_wp2_with fail
          go_ret
          exact ⟨13, _, _, by omega, rfl, L1.out.le (by omega)⟩
        · have n3 : (x == 3) = false := by simpa using e3
          go_wp2_with fail
          go_ret
          exact ⟨n, _, xs, by omega, rfl, L.out.le (by omega)⟩
end Go.Proofs.Ytnlneblipedddaa
