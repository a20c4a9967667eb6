/- Drawn carries, mostly valid ones, and what is drawn beside them. Condition: the source's bytes can be read. -/
import Derived.Test.YtamehlafmfmgmaaDoorCarDraw
namespace Go.Proofs.YtamehlafmfmgmaaDoor
open Go.RowKit

/-- All numbers of carries lie in these bounds. -/
def carBd (xs : List Int) : Prop := ∀ x ∈ xs, -1 ≤ x ∧ x ≤ 1001
theorem gc_bd {k : Nat} {xs : List Int} (h : gcB k xs = true) (hl : xs.length = k * 4) : carBd xs := by
  intro x hx
  obtain ⟨i, hi, rfl⟩ := List.getElem_of_mem hx
  have hk : i / 4 < k := by omega
  have hv := caB_yes ((gc_yes h).each (i / 4) hk)
  have e : xs[i] = xs.getD i 0 := by simp [List.getD, hi]
  rw [e]
  have h4 : i % 4 = 0 ∨ i % 4 = 1 ∨ i % 4 = 2 ∨ i % 4 = 3 := by omega
  unfold cP cL cF cT at hv
  rcases h4 with h4 | h4 | h4 | h4
  · rw [show i = i / 4 * 4 by omega]; omega
  · rw [show i = i / 4 * 4 + 1 by omega]; omega
  · rw [show i = i / 4 * 4 + 2 by omega]; omega
  · rw [show i = i / 4 * 4 + 3 by omega]; omega
theorem carBd_set {xs : List Int} {i : Nat} {v : Int} (h : carBd xs) (hv : -1 ≤ v ∧ v ≤ 1001) : carBd (xs.set i v) := by
  intro x hx
  rcases List.mem_or_eq_of_mem_set hx with hx | rfl
  · exact h x hx
  · exact hv
theorem carBd_app {xs ys : List Int} (h : carBd xs) (h2 : carBd ys) : carBd (xs ++ ys) := by
  intro x hx
  rcases List.mem_append.1 hx with hx | hx
  · exact h x hx
  · exact h2 x hx
theorem Lca.store {a W : World} {B g N k bl c i : Nat} {xs : List Int} {v : Int} (h : Lca a B g N W (.slice (some ⟨bl, 0, none⟩) k c) k xs) (hlt : g < a.heap.size) : Lca a B g N (W.setCell ⟨bl, i, none⟩ (.int .i64 v)) (.slice (some ⟨bl, 0, none⟩) k c) k (xs.set i v) := by
  have hs := h.own.stored i (.int .i64 v)
  have hb := (h.own.lt bl rfl).1
  exact ⟨by have := hs.1; rwa [ints_set] at this, h.cur.setCell (p := ⟨bl, i, none⟩) (by show g < bl; omega) _, only_set (p := ⟨bl, i, none⟩) h.only hb _⟩
theorem Lca.app {a W W' : World} {B g N k : Nat} {u u' : Value} {xs ys : List Int} (h : Lca a B g N W u k xs) (hlt : g < a.heap.size) (ho : W'.ownsRow a.heap.size 50 4 u' (k + 1) (ints ys)) (hg : W.grownBy W' u.ownBlock) : Lca a B g N W' u' (k + 1) ys :=
  ⟨ho, h.cur.grown hg (fun j hj => by have := (h.own.lt j hj).1; omega), only_grown h.only hg (fun j hj => .inr (h.own.lt j hj).1)⟩
/-- Carries are handed out. -/
def HandsCars (B g N : Nat) (w : World) (e : Ending) (w' : World) : Prop := ∃ (u : Value) (k : Nat) (xs : List Int), e = .returned u ∧ k ≤ 41 ∧ carBd xs ∧ Lca w B g N w' u k xs
set_option maxRecDepth 100000 in
set_option maxHeartbeats 4000000 in
theorem anyCarries_any (B g N : Nat) (w : World) (h : Cur w B g N) (hN : N ≤ 1000000) : Calls Tryd.prog 34 #[.pointer (some ⟨g, 0, none⟩)] w (HandsCars B g (N + 10100) w) := by
  have hlt := h.lt
  have C0 := Lib.hid h
  clear h
  go_enter Tryd.func34, Tryd.ntmps34
  go_wp2_with fail
  refine (carries_any B g N _ C0.out hN).mono ?_
  rintro e w1 ⟨u, k, xs, rfl, hgc, hl⟩
  have h40 := (gc_yes hgc).len
  have HB := Lib.hid (gc_bd hgc hl.len)
  obtain ⟨A, c, rfl⟩ := hl.form
  have L0 := Lib.hid hl
  clear hl hgc C0
  by_cases hk0 : 0 < k
  · have d0 : decide ((0 : Int) < (k : Int)) = true := by simp; omega
    obtain ⟨bl, rfl, hbl⟩ := own_at L0.out.own hk0
    have kle : (k : Int) ≤ 1000 := by omega
    go_wp2_with fail
    refine (pick_any B g (N + 10000) (k : Int) _ L0.out.cur (by omega) (by omega)).mono ?_
    rintro e w2 ⟨zq, zq0, zq1, rfl, hc, hg⟩
    obtain ⟨z, rfl⟩ := Int.eq_ofNat_of_zero_le zq0
    have hzk : z < k := by unfold pickHi at zq1; split at zq1 <;> omega
    replace L0 := Lib.hid (L0.out.ask hlt hc hg)
    have i0 : (0 : Int) ≤ (z : Int) := by omega
    have i1 : (z : Int) < (k : Int) := by omega
    clear hc hg zq1
    go_wp2_with fail
    refine (pick_any B g (N + 10002) 30 _ L0.out.cur (by omega) (by omega)).mono ?_
    rintro e w3 ⟨x, x0, x1, rfl, hc, hg⟩
    simp [pickHi] at x1
    replace L0 := Lib.hid (L0.out.ask hlt hc hg)
    clear hc hg
    have hxl := L0.out.len
    have bdat := fun q (hq : q < k * 4) => HB.out (xs.getD q 0) (by
      have e : xs.getD q 0 = xs[q]'(by omega) := by simp [List.getD, show q < xs.length by omega]
      rw [e]; exact List.getElem_mem _)
    have b2 := bdat (z * 4 + 2) (by omega)
    have b3 := bdat (z * 4 + 3) (by omega)
    have c2 := (L0.out.own.cellAt (z * 4 + 2) (by omega)).trans (ints_get xs _ (by omega))
    have c3 := (L0.out.own.cellAt (z * 4 + 3) (by omega)).trans (ints_get xs _ (by omega))
    obtain ⟨yf, eyf⟩ : ∃ a, xs.getD (z * 4 + 2) 0 = a := ⟨_, rfl⟩
    obtain ⟨yt, eyt⟩ : ∃ a, xs.getD (z * 4 + 3) 0 = a := ⟨_, rfl⟩
    rw [eyf] at b2 c2
    rw [eyt] at b3 c3
    clear bdat eyf eyt hxl
    by_cases e0 : x = 0
    · subst e0
      have A5 := Lib.hid (Blk.new w3 3 (ints [0, 12, 13]).toArray)
      have hg5 := L0.out.cur.lt
      replace L0 := Lib.hid (L0.out.alloc (.cells (ints [0, 12, 13]).toArray 3))
      go_wp2_with fail
      refine (among_blk B g (N + 10004) w3.heap.size _ [0, 12, 13] 0 13 _ L0.out.cur (by omega) hg5 A5.out (by simp) (by simp) (by simp; try omega)).mono ?_
      rintro e w4 ⟨y5, y50, y51, rfl, hc, hg⟩
      replace L0 := Lib.hid (L0.out.ask hlt hc hg)
      clear hc hg hg5 A5
      have hxl := L0.out.len
      have s0 := (L0.out.own.cellAt (z * 4) (by omega)).trans (ints_get xs _ (by omega))
      have f0 := L0.out.own.frozenAt (z * 4)
      have L1 := Lib.hid (L0.out.store (i := z * 4) (v := y5) hlt)
      have HB1 := Lib.hid (carBd_set (i := z * 4) (v := y5) HB.out (by omega))
      clear hxl L0
      go_wp2_with fail
      go_ret
      exact ⟨_, k, _, rfl, by omega, HB1.out, L1.out.le (by omega)⟩
    · have n0 : (x == 0) = false := by simpa using e0
      by_cases e1 : x = 1
      · subst e1
        have A5 := Lib.hid (Blk.new w3 3 (ints [0, 9, 10]).toArray)
        have hg5 := L0.out.cur.lt
        replace L0 := Lib.hid (L0.out.alloc (.cells (ints [0, 9, 10]).toArray 3))
        go_wp2_with fail
        refine (among_blk B g (N + 10004) w3.heap.size _ [0, 9, 10] 0 10 _ L0.out.cur (by omega) hg5 A5.out (by simp) (by simp) (by simp; try omega)).mono ?_
        rintro e w4 ⟨y5, y50, y51, rfl, hc, hg⟩
        replace L0 := Lib.hid (L0.out.ask hlt hc hg)
        clear hc hg hg5 A5
        have hxl := L0.out.len
        have s0 := (L0.out.own.cellAt (z * 4 + 1) (by omega)).trans (ints_get xs _ (by omega))
        have f0 := L0.out.own.frozenAt (z * 4 + 1)
        have L1 := Lib.hid (L0.out.store (i := z * 4 + 1) (v := y5) hlt)
        have HB1 := Lib.hid (carBd_set (i := z * 4 + 1) (v := y5) HB.out (by omega))
        clear hxl L0
        go_wp2_with fail
        go_ret
        exact ⟨_, k, _, rfl, by omega, HB1.out, L1.out.le (by omega)⟩
      · have n1 : (x == 1) = false := by simpa using e1
        by_cases e2 : x = 2
        · subst e2
          have A5 := Lib.hid (Blk.new w3 3 (ints [-1, yt]).toArray)
          have hg5 := L0.out.cur.lt
          replace L0 := Lib.hid (L0.out.alloc (.cells (ints [-1, yt]).toArray 3))
          go_wp2_with fail
          refine (among_blk B g (N + 10004) w3.heap.size _ [-1, yt] (-1) 1001 _ L0.out.cur (by omega) hg5 A5.out (by simp) (by simp) (by simp; try omega)).mono ?_
          rintro e w4 ⟨y5, y50, y51, rfl, hc, hg⟩
          replace L0 := Lib.hid (L0.out.ask hlt hc hg)
          clear hc hg hg5 A5
          have hxl := L0.out.len
          have s0 := (L0.out.own.cellAt (z * 4 + 2) (by omega)).trans (ints_get xs _ (by omega))
          have f0 := L0.out.own.frozenAt (z * 4 + 2)
          have L1 := Lib.hid (L0.out.store (i := z * 4 + 2) (v := y5) hlt)
          have HB1 := Lib.hid (carBd_set (i := z * 4 + 2) (v := y5) HB.out (by omega))
          clear hxl L0
          go_wp2_with fail
          go_ret
          exact ⟨_, k, _, rfl, by omega, HB1.out, L1.out.le (by omega)⟩
        · have n2 : (x == 2) = false := by simpa using e2
          by_cases e3 : x = 3
          · subst e3
            have A5 := Lib.hid (Blk.new w3 3 (ints [yf, 1000, 1001]).toArray)
            have hg5 := L0.out.cur.lt
            replace L0 := Lib.hid (L0.out.alloc (.cells (ints [yf, 1000, 1001]).toArray 3))
            go_wp2_with fail
            refine (among_blk B g (N + 10004) w3.heap.size _ [yf, 1000, 1001] (-1) 1001 _ L0.out.cur (by omega) hg5 A5.out (by simp) (by simp) (by simp; try omega)).mono ?_
            rintro e w4 ⟨y5, y50, y51, rfl, hc, hg⟩
            replace L0 := Lib.hid (L0.out.ask hlt hc hg)
            clear hc hg hg5 A5
            have hxl := L0.out.len
            have s0 := (L0.out.own.cellAt (z * 4 + 3) (by omega)).trans (ints_get xs _ (by omega))
            have f0 := L0.out.own.frozenAt (z * 4 + 3)
            have L1 := Lib.hid (L0.out.store (i := z * 4 + 3) (v := y5) hlt)
            have HB1 := Lib.hid (carBd_set (i := z * 4 + 3) (v := y5) HB.out (by omega))
            clear hxl L0
            go_wp2_with fail
            go_ret
            exact ⟨_, k, _, rfl, by omega, HB1.out, L1.out.le (by omega)⟩
          · have n3 : (x == 3) = false := by simpa using e3
            by_cases e4 : x = 4
            · subst e4
              have K6 := Lib.hid (Blk.new w3 50 #[.int .i64 12, .int .i64 9, .int .i64 999, .int .i64 1000])
              have L1 := Lib.hid (L0.out.alloc (.cells #[.int .i64 12, .int .i64 9, .int .i64 999, .int .i64 1000] 50))
              clear L0
              have hsz := L1.out.only.size
              go_wp2_with (at_builtin; refine app_part rfl _ _ rfl w.heap.size _ k xs rfl L1.out.own _ 1 [12, 9, 999, 1000] rfl (part_one K6.out) (by omega) hsz ?_; intro v' w4 ho hg)
              have L2 := Lib.hid (L1.out.app hlt ho hg)
              have HB2 := Lib.hid (carBd_app HB.out (show carBd [12, 9, 999, 1000] from fun x hx => by simp at hx; omega))
              clear ho hg L1
              go_wp2_with fail
              go_ret
              exact ⟨_, k + 1, _, rfl, by omega, HB2.out, L2.out.le (by omega)⟩
            · have n4 : (x == 4) = false := by simpa using e4
              go_wp2_with fail
              go_ret
              exact ⟨_, k, xs, rfl, by omega, HB.out, L0.out.le (by omega)⟩
  · have d0 : decide ((0 : Int) < (k : Int)) = false := by simp; omega
    go_wp2_with fail
    go_ret
    exact ⟨_, k, xs, rfl, by omega, HB.out, L0.out.le (by omega)⟩
set_option maxRecDepth 100000 in
set_option maxHeartbeats 1000000 in
theorem carrier_any (B g N : Nat) (w : World) (h : Cur w B g N) (hN : N ≤ 1000000000) : Calls Tryd.prog 42 #[.pointer (some ⟨g, 0, none⟩)] w (HandsAny B g (N + 4) w) := by
  have C0 := Lib.hid h
  have G0 := Lib.hid (World.grownBy.refl w (some g))
  clear h
  go_enter Tryd.func42, Tryd.ntmps42
  have A1 := Lib.hid (Blk.new w 3 (ints [0, 13]).toArray)
  have C19 := Lib.hid (C0.out.alloc (.cells (ints [0, 13]).toArray 3))
  have G19 := Lib.hid (only_alloc G0.out (.cells (ints [0, 13]).toArray 3))
  go_wp2_with fail
  refine (among_blk B g (N + 0) w.heap.size _ [0, 13] 0 13 _ C19.out (by omega) C0.out.lt A1.out (by simp) (by simp) (by simp; try omega)).mono ?_
  rintro e w1 ⟨y1, y10, y11, rfl, hc, hg⟩
  have C1 := Lib.hid hc
  have G1 := Lib.hid (grow_trans G19.out hg)
  clear hc hg C19 G19 A1
  have A2 := Lib.hid (Blk.new w1 3 (ints [1, 2, 3, 4, 12, y1]).toArray)
  have C29 := Lib.hid (C1.out.alloc (.cells (ints [1, 2, 3, 4, 12, y1]).toArray 3))
  have G29 := Lib.hid (only_alloc G1.out (.cells (ints [1, 2, 3, 4, 12, y1]).toArray 3))
  go_wp2_with fail
  refine (among_blk B g (N + 2) w1.heap.size _ [1, 2, 3, 4, 12, y1] 0 13 _ C29.out (by omega) C1.out.lt A2.out (by simp) (by simp) (by simp; try omega)).mono ?_
  rintro e w2 ⟨y2, y20, y21, rfl, hc, hg⟩
  have C2 := Lib.hid hc
  have G2 := Lib.hid (grow_trans G29.out hg)
  clear hc hg C29 G29 A2
  go_wp2_with fail
  go_ret
  exact ⟨y2, by omega, rfl, C2.out, G2.out⟩
set_option maxRecDepth 100000 in
set_option maxHeartbeats 1000000 in
theorem loadOf_any (B g N : Nat) (w : World) (h : Cur w B g N) (hN : N ≤ 1000000000) : Calls Tryd.prog 35 #[.pointer (some ⟨g, 0, none⟩)] w (HandsAny B g (N + 4) w) := by
  have C0 := Lib.hid h
  have G0 := Lib.hid (World.grownBy.refl w (some g))
  clear h
  go_enter Tryd.func35, Tryd.ntmps35
  have A1 := Lib.hid (Blk.new w 3 (ints [0, 10]).toArray)
  have C19 := Lib.hid (C0.out.alloc (.cells (ints [0, 10]).toArray 3))
  have G19 := Lib.hid (only_alloc G0.out (.cells (ints [0, 10]).toArray 3))
  go_wp2_with fail
  refine (among_blk B g (N + 0) w.heap.size _ [0, 10] 0 10 _ C19.out (by omega) C0.out.lt A1.out (by simp) (by simp) (by simp; try omega)).mono ?_
  rintro e w1 ⟨y1, y10, y11, rfl, hc, hg⟩
  have C1 := Lib.hid hc
  have G1 := Lib.hid (grow_trans G19.out hg)
  clear hc hg C19 G19 A1
  have A2 := Lib.hid (Blk.new w1 3 (ints [1, 2, 3, 4, 9, y1]).toArray)
  have C29 := Lib.hid (C1.out.alloc (.cells (ints [1, 2, 3, 4, 9, y1]).toArray 3))
  have G29 := Lib.hid (only_alloc G1.out (.cells (ints [1, 2, 3, 4, 9, y1]).toArray 3))
  go_wp2_with fail
  refine (among_blk B g (N + 2) w1.heap.size _ [1, 2, 3, 4, 9, y1] 0 10 _ C29.out (by omega) C1.out.lt A2.out (by simp) (by simp) (by simp; try omega)).mono ?_
  rintro e w2 ⟨y2, y20, y21, rfl, hc, hg⟩
  have C2 := Lib.hid hc
  have G2 := Lib.hid (grow_trans G29.out hg)
  clear hc hg C29 G29 A2
  go_wp2_with fail
  go_ret
  exact ⟨y2, by omega, rfl, C2.out, G2.out⟩
set_option maxRecDepth 100000 in
set_option maxHeartbeats 1000000 in
theorem carryCount_any (B g N : Nat) (w : World) (h : Cur w B g N) (hN : N ≤ 1000000000) : Calls Tryd.prog 33 #[.pointer (some ⟨g, 0, none⟩)] w (HandsAny B g (N + 8) w) := by
  have C0 := Lib.hid h
  have G0 := Lib.hid (World.grownBy.refl w (some g))
  clear h
  go_enter Tryd.func33, Tryd.ntmps33
  go_wp2_with fail
  refine (pick_any B g (N + 0) 70 _ C0.out (by omega) (by omega)).mono ?_
  rintro e w1 ⟨x1, x10, x11, rfl, hc, hg⟩
  have C1 := Lib.hid hc
  have G1 := Lib.hid (grow_trans G0.out hg)
  clear hc hg
  simp [pickHi] at x11
  go_wp2_with fail
  refine (pick_any B g (N + 2) 70 _ C1.out (by omega) (by omega)).mono ?_
  rintro e w2 ⟨x2, x20, x21, rfl, hc, hg⟩
  have C2 := Lib.hid hc
  have G2 := Lib.hid (grow_trans G1.out hg)
  clear hc hg
  simp [pickHi] at x21
  have A3 := Lib.hid (Blk.new w2 3 (ints [1000, -1]).toArray)
  have C39 := Lib.hid (C2.out.alloc (.cells (ints [1000, -1]).toArray 3))
  have G39 := Lib.hid (only_alloc G2.out (.cells (ints [1000, -1]).toArray 3))
  go_wp2_with fail
  refine (among_blk B g (N + 4) w2.heap.size _ [1000, -1] (-1) 1000 _ C39.out (by omega) C2.out.lt A3.out (by simp) (by simp) (by simp; try omega)).mono ?_
  rintro e w3 ⟨y3, y30, y31, rfl, hc, hg⟩
  have C3 := Lib.hid hc
  have G3 := Lib.hid (grow_trans G39.out hg)
  clear hc hg C39 G39 A3
  have A4 := Lib.hid (Blk.new w3 3 (ints [0, 4, x1, x2, 999, y3]).toArray)
  have C49 := Lib.hid (C3.out.alloc (.cells (ints [0, 4, x1, x2, 999, y3]).toArray 3))
  have G49 := Lib.hid (only_alloc G3.out (.cells (ints [0, 4, x1, x2, 999, y3]).toArray 3))
  go_wp2_with fail
  refine (among_blk B g (N + 6) w3.heap.size _ [0, 4, x1, x2, 999, y3] (-1) 1000 _ C49.out (by omega) C3.out.lt A4.out (by simp) (by simp) (by simp; try omega)).mono ?_
  rintro e w4 ⟨y4, y40, y41, rfl, hc, hg⟩
  have C4 := Lib.hid hc
  have G4 := Lib.hid (grow_trans G49.out hg)
  clear hc hg C49 G49 A4
  go_wp2_with fail
  go_ret
  exact ⟨y4, by omega, rfl, C4.out, G4.out⟩
end Go.Proofs.YtamehlafmfmgmaaDoor
