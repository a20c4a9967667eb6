/- A drawn spot that may lie off the field, and a drawn way. Condition: the source's bytes can be read. -/
import Derived.Test.YtjcepipgjpaclaaPFnConflicts34
import Derived.Deep.RegionHeld3
namespace Go.Proofs.Ytjcepipgjpaclaa
open Go.RowKit

theorem among_blk (B g N b c : Nat) (xs : List Int) (lo hi : Int) (w : World) (h : Cur w B g N) (hN : N ≤ 100000000000) (hb : g < b) (hk : Blk w b 3 (ints xs).toArray) (h0 : 0 < xs.length) (hl : xs.length ≤ 1000) (hlo : ∀ x ∈ xs, lo ≤ x ∧ x ≤ hi) :
    Calls Try.prog 121 #[.pointer (some ⟨g, 0, none⟩), .slice (some ⟨b, 0, none⟩) xs.length c] w (Hands B g (N + 2) lo hi w) :=
  among_any B g N b 0 xs.length c xs lo hi w h (by omega) h0 (by omega) (by omega) hk.lt
    (fun j hj => by rw [Nat.zero_add, hk.cell j]; simp [ints, hj])
    (fun j hj => hlo _ (by rw [List.getD_eq_getElem?_getD, List.getElem?_eq_getElem hj]; exact List.getElem_mem hj))

/-! $1 the number of questions so far, $2 the world's name, $3 the facts' suffix, $4 the one before -/
set_option maxRecDepth 100000 in
set_option maxHeartbeats 2000000 in
theorem spot_any (B g N : Nat) (w : World) (h : Cur w B g N) (hN : N ≤ 10000000000) : Calls Try.prog 165 #[.pointer (some ⟨g, 0, none⟩)] w (HandsSpot B g (N + 12) w) := by
  have hlt := h.lt
  have C0 := Lib.hid (h.alloc (.cells #[.int .i64 0, .int .i64 0] 45))
  have K0 := Lib.hid (Blk.new w 45 #[.int .i64 0, .int .i64 0])
  have G0 := Lib.hid (only_alloc (World.grownBy.refl w (some g)) (.cells #[.int .i64 0, .int .i64 0] 45))
  clear h
  go_enter Try.func165, Try.ntmps165
  go_wp2_with fail
  refine (pick_any B g (N + 0) 161 _ C0.out (by omega) (by omega)).mono ?_
  rintro e w1 ⟨x1, x10, x11, rfl, hc, hg⟩
  simp [pickHi] at x11
  have C1 := Lib.hid hc
  have K1 := Lib.hid (K0.out.grown' hg (by omega))
  have G1 := Lib.hid (grow_trans G0.out hg)
  clear hc hg
  go_wp2_with fail
  refine (pick_any B g (N + 2) 1281 _ C1.out (by omega) (by omega)).mono ?_
  rintro e w2 ⟨x2, x20, x21, rfl, hc, hg⟩
  simp [pickHi] at x21
  have C2 := Lib.hid hc
  have K2 := Lib.hid (K1.out.grown' hg (by omega))
  have G2 := Lib.hid (grow_trans G1.out hg)
  clear hc hg
  have A3 := Lib.hid (Blk.new w2 3 (ints [0, 80, 160, 640, 8 * x1, x2, 1280]).toArray)
  have C39 := Lib.hid (C2.out.alloc (.cells (ints [0, 80, 160, 640, 8 * x1, x2, 1280]).toArray 3))
  have K39 := Lib.hid (K2.out.alloc (.cells (ints [0, 80, 160, 640, 8 * x1, x2, 1280]).toArray 3))
  have G39 := Lib.hid (only_alloc G2.out (.cells (ints [0, 80, 160, 640, 8 * x1, x2, 1280]).toArray 3))
  go_wp2_with fail
  refine (among_blk B g (N + 4) w2.heap.size _ [0, 80, 160, 640, 8 * x1, x2, 1280] 0 1280 _ C39.out (by omega) C2.out.lt A3.out (by simp) (by simp) (by simp; omega)).mono ?_
  rintro e w3 ⟨y3, y30, y31, rfl, hc, hg⟩
  have C3 := Lib.hid hc
  have K3 := Lib.hid (K39.out.grown' hg (by omega))
  have G3 := Lib.hid (grow_trans G39.out hg)
  clear hc hg C39 K39 G39 A3
  go_wp2_with fail
  refine (pick_any B g (N + 6) 85 _ C3.out (by omega) (by omega)).mono ?_
  rintro e w4 ⟨x4, x40, x41, rfl, hc, hg⟩
  simp [pickHi] at x41
  have C4 := Lib.hid hc
  have K4 := Lib.hid (K3.out.grown' hg (by omega))
  have G4 := Lib.hid (grow_trans G3.out hg)
  clear hc hg
  go_wp2_with fail
  refine (pick_any B g (N + 8) 673 _ C4.out (by omega) (by omega)).mono ?_
  rintro e w5 ⟨x5, x50, x51, rfl, hc, hg⟩
  simp [pickHi] at x51
  have C5 := Lib.hid hc
  have K5 := Lib.hid (K4.out.grown' hg (by omega))
  have G5 := Lib.hid (grow_trans G4.out hg)
  clear hc hg
  have A6 := Lib.hid (Blk.new w5 3 (ints [0, 80, 336, 8 * x4, x5, 672]).toArray)
  have C69 := Lib.hid (C5.out.alloc (.cells (ints [0, 80, 336, 8 * x4, x5, 672]).toArray 3))
  have K69 := Lib.hid (K5.out.alloc (.cells (ints [0, 80, 336, 8 * x4, x5, 672]).toArray 3))
  have G69 := Lib.hid (only_alloc G5.out (.cells (ints [0, 80, 336, 8 * x4, x5, 672]).toArray 3))
  go_wp2_with fail
  refine (among_blk B g (N + 10) w5.heap.size _ [0, 80, 336, 8 * x4, x5, 672] 0 672 _ C69.out (by omega) C5.out.lt A6.out (by simp) (by simp) (by simp; omega)).mono ?_
  rintro e w6 ⟨y6, y60, y61, rfl, hc, hg⟩
  have C6 := Lib.hid hc
  have K6 := Lib.hid (K69.out.grown' hg (by omega))
  have G6 := Lib.hid (grow_trans G69.out hg)
  clear hc hg C69 K69 G69 A6
  obtain ⟨n0, n1⟩ := K6.out.c2
  have n2 := K6.out.frozen 0
  have n3 := K6.out.frozen 1
  go_wp2_with fail
  obtain ⟨m0, m1⟩ := (K6.out.set2 (.int .i64 y3) (.int .i64 y6)).c2
  exact bodyPost_ret (v := (Value.agg #[Value.int .i64 y3, Value.int .i64 y6])) (by simp [results, Try.results165, go_sem, m0, m1]) rfl
    ⟨_, _, by omega, rfl, (C6.out.setCell (p := ⟨w.heap.size, 0, none⟩) hlt _).setCell (p := ⟨w.heap.size, 1, none⟩) hlt _, only_set (p := ⟨w.heap.size, 1, none⟩) (only_set (p := ⟨w.heap.size, 0, none⟩) G6.out (Nat.le_refl _) _) (Nat.le_refl _) _⟩

set_option maxRecDepth 100000 in
set_option maxHeartbeats 2000000 in
theorem anySpot_any (B g N : Nat) (w : World) (h : Cur w B g N) (hN : N ≤ 1000000000) : Calls Try.prog 164 #[.pointer (some ⟨g, 0, none⟩)] w (HandsSpot B g (N + 16) w) := by
  have hlt := h.lt
  have C0 := Lib.hid (h.alloc (.cells #[.int .i64 0, .int .i64 0] 45))
  have K0 := Lib.hid (Blk.new w 45 #[.int .i64 0, .int .i64 0])
  have G0 := Lib.hid (only_alloc (World.grownBy.refl w (some g)) (.cells #[.int .i64 0, .int .i64 0] 45))
  clear h
  go_enter Try.func164, Try.ntmps164
  go_wp2_with fail
  refine (spot_any B g N _ C0.out (by omega)).mono ?_
  rintro e w1 ⟨x, y, ⟨b1, b2, b3, b4⟩, rfl, hc, hg⟩
  have hlt1 := hc.lt
  have C1 := Lib.hid (hc.alloc (.cells #[.int .i64 x, .int .i64 y] 45))
  have K1 := Lib.hid ((K0.out.grown' hg (by omega)).alloc (.cells #[.int .i64 x, .int .i64 y] 45))
  have G1 := Lib.hid (only_alloc (grow_trans G0.out hg) (.cells #[.int .i64 x, .int .i64 y] 45))
  have L1 := Lib.hid (Blk.new w1 45 #[.int .i64 x, .int .i64 y])
  have hw1 : w.heap.size < w1.heap.size := (K0.out.grown' hg (by omega)).lt
  clear hc hg
  go_wp2_with fail
  refine (pick_any B g (N + 12) 30 _ C1.out (by omega) (by omega)).mono ?_
  rintro e w2 ⟨r, r0, r1, rfl, hc, hg⟩
  have C2 := Lib.hid hc
  have K2 := Lib.hid (K1.out.grown' hg (by omega))
  have L2 := Lib.hid (L1.out.grown' hg (by omega))
  have G2 := Lib.hid (grow_trans G1.out hg)
  clear hc hg
  cases h0 : (r == 0) with
  | true =>
    have A3 := Lib.hid (Blk.new w2 3 (ints [-1, 1281]).toArray)
    have C29 := Lib.hid (C2.out.alloc (.cells (ints [-1, 1281]).toArray 3))
    have K29 := Lib.hid (K2.out.alloc (.cells (ints [-1, 1281]).toArray 3))
    have L29 := Lib.hid (L2.out.alloc (.cells (ints [-1, 1281]).toArray 3))
    have G29 := Lib.hid (only_alloc G2.out (.cells (ints [-1, 1281]).toArray 3))
    go_wp2_with fail
    refine (among_blk B g (N + 14) w2.heap.size _ [-1, 1281] (-1) 1281 _ C29.out (by omega) C2.out.lt A3.out (by simp) (by simp) (by simp)).mono ?_
    rintro e w3 ⟨z, z0, z1, rfl, hc, hg⟩
    have C3 := Lib.hid hc
    have K3 := Lib.hid (K29.out.grown' hg (by omega))
    have L3 := Lib.hid (L29.out.grown' hg (by omega))
    have G3 := Lib.hid (grow_trans G29.out hg)
    clear hc hg C29 K29 L29 G29 A3
    obtain ⟨a0, a1⟩ := L3.out.c2
    have a2 := L3.out.frozen 0
    have a3 := L3.out.frozen 1
    have hX := L3.out.set_ 0 (.int .i64 z)
    simp at hX
    have X3 := Lib.hid hX
    have K4 := Lib.hid (K3.out.far (p := ⟨w1.heap.size, 0, none⟩) (Nat.ne_of_lt hw1) (.int .i64 z))
    have C4 := Lib.hid (C3.out.setCell (p := ⟨w1.heap.size, 0, none⟩) hlt1 (.int .i64 z))
    have G4 := Lib.hid (only_set (p := ⟨w1.heap.size, 0, none⟩) G3.out (Nat.le_of_lt hw1) (.int .i64 z))
    clear hX
    obtain ⟨n0, n1⟩ := K3.out.c2
    have n2 := K3.out.frozen 0
    have n3 := K3.out.frozen 1
    go_wp2_with fail
    obtain ⟨m0, m1⟩ := (K4.out.set2 (.int .i64 z) (.int .i64 y)).c2
    exact bodyPost_ret (v := (Value.agg #[Value.int .i64 z, Value.int .i64 y])) (by simp [results, Try.results164, go_sem, m0, m1]) rfl
      ⟨_, _, by omega, rfl, (C4.out.setCell (p := ⟨w.heap.size, 0, none⟩) hlt _).setCell (p := ⟨w.heap.size, 1, none⟩) hlt _, only_set (p := ⟨w.heap.size, 1, none⟩) (only_set (p := ⟨w.heap.size, 0, none⟩) G4.out (Nat.le_refl _) _) (Nat.le_refl _) _⟩
  | false =>
    cases h1 : (r == 1) with
    | true =>
      have A3 := Lib.hid (Blk.new w2 3 (ints [-1, 673]).toArray)
      have C29 := Lib.hid (C2.out.alloc (.cells (ints [-1, 673]).toArray 3))
      have K29 := Lib.hid (K2.out.alloc (.cells (ints [-1, 673]).toArray 3))
      have L29 := Lib.hid (L2.out.alloc (.cells (ints [-1, 673]).toArray 3))
      have G29 := Lib.hid (only_alloc G2.out (.cells (ints [-1, 673]).toArray 3))
      go_wp2_with fail
      refine (among_blk B g (N + 14) w2.heap.size _ [-1, 673] (-1) 673 _ C29.out (by omega) C2.out.lt A3.out (by simp) (by simp) (by simp)).mono ?_
      rintro e w3 ⟨z, z0, z1, rfl, hc, hg⟩
      have C3 := Lib.hid hc
      have K3 := Lib.hid (K29.out.grown' hg (by omega))
      have L3 := Lib.hid (L29.out.grown' hg (by omega))
      have G3 := Lib.hid (grow_trans G29.out hg)
      clear hc hg C29 K29 L29 G29 A3
      obtain ⟨a0, a1⟩ := L3.out.c2
      have a2 := L3.out.frozen 0
      have a3 := L3.out.frozen 1
      have hX := L3.out.set_ 1 (.int .i64 z)
      simp at hX
      have X3 := Lib.hid hX
      have K4 := Lib.hid (K3.out.far (p := ⟨w1.heap.size, 1, none⟩) (Nat.ne_of_lt hw1) (.int .i64 z))
      have C4 := Lib.hid (C3.out.setCell (p := ⟨w1.heap.size, 1, none⟩) hlt1 (.int .i64 z))
      have G4 := Lib.hid (only_set (p := ⟨w1.heap.size, 1, none⟩) G3.out (Nat.le_of_lt hw1) (.int .i64 z))
      clear hX
      obtain ⟨n0, n1⟩ := K3.out.c2
      have n2 := K3.out.frozen 0
      have n3 := K3.out.frozen 1
      go_wp2_with fail
      obtain ⟨m0, m1⟩ := (K4.out.set2 (.int .i64 x) (.int .i64 z)).c2
      exact bodyPost_ret (v := (Value.agg #[Value.int .i64 x, Value.int .i64 z])) (by simp [results, Try.results164, go_sem, m0, m1]) rfl
        ⟨_, _, by omega, rfl, (C4.out.setCell (p := ⟨w.heap.size, 0, none⟩) hlt _).setCell (p := ⟨w.heap.size, 1, none⟩) hlt _, only_set (p := ⟨w.heap.size, 1, none⟩) (only_set (p := ⟨w.heap.size, 0, none⟩) G4.out (Nat.le_refl _) _) (Nat.le_refl _) _⟩
    | false =>
      obtain ⟨a0, a1⟩ := L2.out.c2
      obtain ⟨n0, n1⟩ := K2.out.c2
      have n2 := K2.out.frozen 0
      have n3 := K2.out.frozen 1
      go_wp2_with fail
      obtain ⟨m0, m1⟩ := (K2.out.set2 (.int .i64 x) (.int .i64 y)).c2
      exact bodyPost_ret (v := (Value.agg #[Value.int .i64 x, Value.int .i64 y])) (by simp [results, Try.results164, go_sem, m0, m1]) rfl
        ⟨_, _, by omega, rfl, ((C2.out.setCell (p := ⟨w.heap.size, 0, none⟩) hlt _).setCell (p := ⟨w.heap.size, 1, none⟩) hlt _).le (by omega), only_set (p := ⟨w.heap.size, 1, none⟩) (only_set (p := ⟨w.heap.size, 0, none⟩) G2.out (Nat.le_refl _) _) (Nat.le_refl _) _⟩
end Go.Proofs.Ytjcepipgjpaclaa
