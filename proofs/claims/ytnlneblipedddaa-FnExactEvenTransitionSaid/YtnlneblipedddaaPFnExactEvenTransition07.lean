/- A drawn spot that may lie off the field, and a drawn way. Condition: the source's bytes can be read. Numbers that are drawn, and a new source of choices. Condition: the source's bytes can be read. A list of whole numbers in the midst of a draw. Condition: the source's bytes can be read. -/
import Derived.Test.YtnlneblipedddaaPFnExactEvenTransition06
import Derived.Deep.RegionHeld3
import Derived.Test.YtnlneblipedddaaPFnExactEvenTransition04
namespace Go.Proofs.Ytnlneblipedddaa
open Go.RowKit

theorem among_blk (B g N b c : Nat) (xs : List Int) (lo hi : Int) (w : World) (h : Cur w B g N) (hN : N ≤ 100000000000) (hb : g < b) (hk : Blk w b 3 (ints xs).toArray) (h0 : 0 < xs.length) (hl : xs.length ≤ 1000) (hlo : ∀ x ∈ xs, lo ≤ x ∧ x ≤ hi) :
    Calls Try.prog 64 #[.pointer (some ⟨g, 0, none⟩), .slice (some ⟨b, 0, none⟩) xs.length c] w (Hands B g (N + 2) lo hi w) :=
  among_any B g N b 0 xs.length c xs lo hi w h (by omega) h0 (by omega) (by omega) hk.lt
    (fun j hj => by rw [Nat.zero_add, hk.cell j]; simp [ints, hj])
    (fun j hj => hlo _ (by rw [List.getD_eq_getElem?_getD, List.getElem?_eq_getElem hj]; exact List.getElem_mem hj))

/-! $1 the number of questions so far, $2 the world's name, $3 the facts' suffix, $4 the one before -/
set_option maxRecDepth 100000 in
set_option maxHeartbeats 2000000 in
theorem spot_any (B g N : Nat) (w : World) (h : Cur w B g N) (hN : N ≤ 10000000000) : Calls Try.prog 98 #[.pointer (some ⟨g, 0, none⟩)] w (HandsSpot B g (N + 12) w) := by
  have hlt := h.lt
  have C0 := Lib.hid (h.alloc (.cells #[.int .i64 0, .int .i64 0] 75))
  have K0 := Lib.hid (Blk.new w 75 #[.int .i64 0, .int .i64 0])
  have G0 := Lib.hid (only_alloc (World.grownBy.refl w (some g)) (.cells #[.int .i64 0, .int .i64 0] 75))
  clear h
  go_enter Try.func98, Try.ntmps98
  go_wp2_with fail
  refine (pick_any B g (N + 0) 161 _ C0.out (by omega) (by omega)).mono ?_
  rintro e w1 ⟨x1, x10, x11, rfl, hc, hg⟩
  simp [pickHi] at x11
  have C1 := Lib.hid hc
  have K1 := Lib.hid (K0.out.grown' hg (by omega))
  have G1 := Lib.hid (grow_trans G0.out hg)
  clear hc hg
  go_wp2_with fail
  refine (pick_any B g (N + 2) 1281 _ C1.out (by omega) (by omega)).mono ?_
  rintro e w2 ⟨x2, x20, x21, rfl, hc, hg⟩
  simp [pickHi] at x21
  have C2 := Lib.hid hc
  have K2 := Lib.hid (K1.out.grown' hg (by omega))
  have G2 := Lib.hid (grow_trans G1.out hg)
  clear hc hg
  have A3 := Lib.hid (Blk.new w2 3 (ints [0, 80, 160, 640, 8 * x1, x2, 1280]).toArray)
  have C39 := Lib.hid (C2.out.alloc (.cells (ints [0, 80, 160, 640, 8 * x1, x2, 1280]).toArray 3))
  have K39 := Lib.hid (K2.out.alloc (.cells (ints [0, 80, 160, 640, 8 * x1, x2, 1280]).toArray 3))
  have G39 := Lib.hid (only_alloc G2.out (.cells (ints [0, 80, 160, 640, 8 * x1, x2, 1280]).toArray 3))
  go_wp2_with fail
  refine (among_blk B g (N + 4) w2.heap.size _ [0, 80, 160, 640, 8 * x1, x2, 1280] 0 1280 _ C39.out (by omega) C2.out.lt A3.out (by simp) (by simp) (by simp; omega)).mono ?_
  rintro e w3 ⟨y3, y30, y31, rfl, hc, hg⟩
  have C3 := Lib.hid hc
  have K3 := Lib.hid (K39.out.grown' hg (by omega))
  have G3 := Lib.hid (grow_trans G39.out hg)
  clear hc hg C39 K39 G39 A3
  go_wp2_with fail
  refine (pick_any B g (N + 6) 85 _ C3.out (by omega) (by omega)).mono ?_
  rintro e w4 ⟨x4, x40, x41, rfl, hc, hg⟩
  simp [pickHi] at x41
  have C4 := Lib.hid hc
  have K4 := Lib.hid (K3.out.grown' hg (by omega))
  have G4 := Lib.hid (grow_trans G3.out hg)
  clear hc hg
  go_wp2_with fail
  refine (pick_any B g (N + 8) 673 _ C4.out (by omega) (by omega)).mono ?_
  rintro e w5 ⟨x5, x50, x51, rfl, hc, hg⟩
  simp [pickHi] at x51
  have C5 := Lib.hid hc
  have K5 := Lib.hid (K4.out.grown' hg (by omega))
  have G5 := Lib.hid (grow_trans G4.out hg)
  clear hc hg
  have A6 := Lib.hid (Blk.new w5 3 (ints [0, 80, 336, 8 * x4, x5, 672]).toArray)
  have C69 := Lib.hid (C5.out.alloc (.cells (ints [0, 80, 336, 8 * x4, x5, 672]).toArray 3))
  have K69 := Lib.hid (K5.out.alloc (.cells (ints [0, 80, 336, 8 * x4, x5, 672]).toArray 3))
  have G69 := Lib.hid (only_alloc G5.out (.cells (ints [0, 80, 336, 8 * x4, x5, 672]).toArray 3))
  go_wp2_with fail
  refine (among_blk B g (N + 10) w5.heap.size _ [0, 80, 336, 8 * x4, x5, 672] 0 672 _ C69.out (by omega) C5.out.lt A6.out (by simp) (by simp) (by simp; omega)).mono ?_
  rintro e w6 ⟨y6, y60, y61, rfl, hc, hg⟩
  have C6 := Lib.hid hc
  have K6 := Lib.hid (K69.out.grown' hg (by omega))
  have G6 := Lib.hid (grow_trans G69.out hg)
  clear hc hg C69 K69 G69 A6
  obtain ⟨n0, n1⟩ := K6.out.c2
  have n2 := K6.out.frozen 0
  have n3 := K6.out.frozen 1
  go_wp2_with fail
  obtain ⟨m0, m1⟩ := (K6.out.set2 (.int .i64 y3) (.int .i64 y6)).c2
  exact bodyPost_ret (v := (Value.agg #[Value.int .i64 y3, Value.int .i64 y6])) (by simp [results, Try.results98, go_sem, m0, m1]) rfl
    ⟨_, _, by omega, rfl, (C6.out.setCell (p := ⟨w.heap.size, 0, none⟩) hlt _).setCell (p := ⟨w.heap.size, 1, none⟩) hlt _, only_set (p := ⟨w.heap.size, 1, none⟩) (only_set (p := ⟨w.heap.size, 0, none⟩) G6.out (Nat.le_refl _) _) (Nat.le_refl _) _⟩

set_option maxRecDepth 100000 in
set_option maxHeartbeats 2000000 in
theorem anySpot_any (B g N : Nat) (w : World) (h : Cur w B g N) (hN : N ≤ 1000000000) : Calls Try.prog 97 #[.pointer (some ⟨g, 0, none⟩)] w (HandsSpot B g (N + 16) w) := by
  have hlt := h.lt
  have C0 := Lib.hid (h.alloc (.cells #[.int .i64 0, .int .i64 0] 75))
  have K0 := Lib.hid (Blk.new w 75 #[.int .i64 0, .int .i64 0])
  have G0 := Lib.hid (only_alloc (World.grownBy.refl w (some g)) (.cells #[.int .i64 0, .int .i64 0] 75))
  clear h
  go_enter Try.func97, Try.ntmps97
  go_wp2_with fail
  refine (spot_any B g N _ C0.out (by omega)).mono ?_
  rintro e w1 ⟨x, y, ⟨b1, b2, b3, b4⟩, rfl, hc, hg⟩
  have hlt1 := hc.lt
  have C1 := Lib.hid (hc.alloc (.cells #[.int .i64 x, .int .i64 y] 75))
  have K1 := Lib.hid ((K0.out.grown' hg (by omega)).alloc (.cells #[.int .i64 x, .int .i64 y] 75))
  have G1 := Lib.hid (only_alloc (grow_trans G0.out hg) (.cells #[.int .i64 x, .int .i64 y] 75))
  have L1 := Lib.hid (Blk.new w1 75 #[.int .i64 x, .int .i64 y])
  have hw1 : w.heap.size < w1.heap.size := (K0.out.grown' hg (by omega)).lt
  clear hc hg
  go_wp2_with fail
  refine (pick_any B g (N + 12) 30 _ C1.out (by omega) (by omega)).mono ?_
  rintro e w2 ⟨r, r0, r1, rfl, hc, hg⟩
  have C2 := Lib.hid hc
  have K2 := Lib.hid (K1.out.grown' hg (by omega))
  have L2 := Lib.hid (L1.out.grown' hg (by omega))
  have G2 := Lib.hid (grow_trans G1.out hg)
  clear hc hg
  cases h0 : (r == 0) with
  | true =>
    have A3 := Lib.hid (Blk.new w2 3 (ints [-1, 1281]).toArray)
    have C29 := Lib.hid (C2.out.alloc (.cells (ints [-1, 1281]).toArray 3))
    have K29 := Lib.hid (K2.out.alloc (.cells (ints [-1, 1281]).toArray 3))
    have L29 := Lib.hid (L2.out.alloc (.cells (ints [-1, 1281]).toArray 3))
    have G29 := Lib.hid (only_alloc G2.out (.cells (ints [-1, 1281]).toArray 3))
    go_wp2_with fail
    refine (among_blk B g (N + 14) w2.heap.size _ [-1, 1281] (-1) 1281 _ C29.out (by omega) C2.out.lt A3.out (by simp) (by simp) (by simp)).mono ?_
    rintro e w3 ⟨z, z0, z1, rfl, hc, hg⟩
    have C3 := Lib.hid hc
    have K3 := Lib.hid (K29.out.grown' hg (by omega))
    have L3 := Lib.hid (L29.out.grown' hg (by omega))
    have G3 := Lib.hid (grow_trans G29.out hg)
    clear hc hg C29 K29 L29 G29 A3
    obtain ⟨a0, a1⟩ := L3.out.c2
    have a2 := L3.out.frozen 0
    have a3 := L3.out.frozen 1
    have hX := L3.out.set_ 0 (.int .i64 z)
    simp at hX
    have X3 := Lib.hid hX
    have K4 := Lib.hid (K3.out.far (p := ⟨w1.heap.size, 0, none⟩) (Nat.ne_of_lt hw1) (.int .i64 z))
    have C4 := Lib.hid (C3.out.setCell (p := ⟨w1.heap.size, 0, none⟩) hlt1 (.int .i64 z))
    have G4 := Lib.hid (only_set (p := ⟨w1.heap.size, 0, none⟩) G3.out (Nat.le_of_lt hw1) (.int .i64 z))
    clear hX
    obtain ⟨n0, n1⟩ := K3.out.c2
    have n2 := K3.out.frozen 0
    have n3 := K3.out.frozen 1
    go_wp2_with fail
    obtain ⟨m0, m1⟩ := (K4.out.set2 (.int .i64 z) (.int .i64 y)).c2
    exact bodyPost_ret (v := (Value.agg #[Value.int .i64 z, Value.int .i64 y])) (by simp [results, Try.results97, go_sem, m0, m1]) rfl
      ⟨_, _, by omega, rfl, (C4.out.setCell (p := ⟨w.heap.size, 0, none⟩) hlt _).setCell (p := ⟨w.heap.size, 1, none⟩) hlt _, only_set (p := ⟨w.heap.size, 1, none⟩) (only_set (p := ⟨w.heap.size, 0, none⟩) G4.out (Nat.le_refl _) _) (Nat.le_refl _) _⟩
  | false =>
    cases h1 : (r == 1) with
    | true =>
      have A3 := Lib.hid (Blk.new w2 3 (ints [-1, 673]).toArray)
      have C29 := Lib.hid (C2.out.alloc (.cells (ints [-1, 673]).toArray 3))
      have K29 := Lib.hid (K2.out.alloc (.cells (ints [-1, 673]).toArray 3))
      have L29 := Lib.hid (L2.out.alloc (.cells (ints [-1, 673]).toArray 3))
      have G29 := Lib.hid (only_alloc G2.out (.cells (ints [-1, 673]).toArray 3))
      go_wp2_with fail
      refine (among_blk B g (N + 14) w2.heap.size _ [-1, 673] (-1) 673 _ C29.out (by omega) C2.out.lt A3.out (by simp) (by simp) (by simp)).mono ?_
      rintro e w3 ⟨z, z0, z1, rfl, hc, hg⟩
      have C3 := Lib.hid hc
      have K3 := Lib.hid (K29.out.grown' hg (by omega))
      have L3 := Lib.hid (L29.out.grown' hg (by omega))
      have G3 := Lib.hid (grow_trans G29.out hg)
      clear hc hg C29 K29 L29 G29 A3
      obtain ⟨a0, a1⟩ := L3.out.c2
      have a2 := L3.out.frozen 0
      have a3 := L3.out.frozen 1
      have hX := L3.out.set_ 1 (.int .i64 z)
      simp at hX
      have X3 := Lib.hid hX
      have K4 := Lib.hid (K3.out.far (p := ⟨w1.heap.size, 1, none⟩) (Nat.ne_of_lt hw1) (.int .i64 z))
      have C4 := Lib.hid (C3.out.setCell (p := ⟨w1.heap.size, 1, none⟩) hlt1 (.int .i64 z))
      have G4 := Lib.hid (only_set (p := ⟨w1.heap.size, 1, none⟩) G3.out (Nat.le_of_lt hw1) (.int .i64 z))
      clear hX
      obtain ⟨n0, n1⟩ := K3.out.c2
      have n2 := K3.out.frozen 0
      have n3 := K3.out.frozen 1
      go_wp2_with fail
      obtain ⟨m0, m1⟩ := (K4.out.set2 (.int .i64 x) (.int .i64 z)).c2
      exact bodyPost_ret (v := (Value.agg #[Value.int .i64 x, Value.int .i64 z])) (by simp [results, Try.results97, go_sem, m0, m1]) rfl
        ⟨_, _, by omega, rfl, (C4.out.setCell (p := ⟨w.heap.size, 0, none⟩) hlt _).setCell (p := ⟨w.heap.size, 1, none⟩) hlt _, only_set (p := ⟨w.heap.size, 1, none⟩) (only_set (p := ⟨w.heap.size, 0, none⟩) G4.out (Nat.le_refl _) _) (Nat.le_refl _) _⟩
    | false =>
      obtain ⟨a0, a1⟩ := L2.out.c2
      obtain ⟨n0, n1⟩ := K2.out.c2
      have n2 := K2.out.frozen 0
      have n3 := K2.out.frozen 1
      go_wp2_with fail
      obtain ⟨m0, m1⟩ := (K2.out.set2 (.int .i64 x) (.int .i64 y)).c2
      exact bodyPost_ret (v := (Value.agg #[Value.int .i64 x, Value.int .i64 y])) (by simp [results, Try.results97, go_sem, m0, m1]) rfl
        ⟨_, _, by omega, rfl, ((C2.out.setCell (p := ⟨w.heap.size, 0, none⟩) hlt _).setCell (p := ⟨w.heap.size, 1, none⟩) hlt _).le (by omega), only_set (p := ⟨w.heap.size, 1, none⟩) (only_set (p := ⟨w.heap.size, 0, none⟩) G2.out (Nat.le_refl _) _) (Nat.le_refl _) _⟩
end Go.Proofs.Ytnlneblipedddaa

namespace Go.Proofs.Ytnlneblipedddaa
open Go.RowKit

/-- A number is handed out, and nothing but block g has changed. -/
def HandsAny (B g N : Nat) (w : World) (e : Ending) (w' : World) : Prop := ∃ r : Int, (-1000000 ≤ r ∧ r ≤ 1000000) ∧ e = .returned (.int .i64 r) ∧ Cur w' B g N ∧ w.grownBy w' (some g)
theorem only_below {w w' : World} {g : Nat} (h : Below w.heap.size w w') : w.grownBy w' (some g) := ⟨h.os, h.tape, h.output, h.size, fun i hi _ => h.block i hi⟩
/-- A new source. -/
theorem Cur.new (w : World) (A : Option Addr) (n c : Nat) (h : RdB w w.heap.size A n) (hn : n ≤ 9223372036854775807) : Cur (w.alloc (.cells #[.slice A n c, .int .i64 0, .int .u64 0] 65)) w.heap.size w.heap.size 0 :=
  ⟨Nat.le_refl _, A, n, c, 0, 0, Blk.new w _ _, hn, Nat.le_refl _, h.keep fun p hp => World.cell?_alloc_lt w _ p hp⟩
theorem below_cur {w w' : World} (o : Obj) (h : (w.alloc o).grownBy w' (some w.heap.size)) : Below w.heap.size w w' :=
  ((Below.refl _ _).alloc (Nat.le_refl _) o).grown h (by simp) (fun k hk => by injection hk with hk; omega)
end Go.Proofs.Ytnlneblipedddaa

namespace Go.Proofs.Ytnlneblipedddaa
open Go.RowKit

theorem own_ask {W W' : World} {base g sz n : Nat} {e : TypeId} {v : Value} {vs : List Value} (h : W.ownsRow base e sz v n vs) (hlt : g < base) (hg : W.grownBy W' (some g)) : W'.ownsRow base e sz v n vs :=
  h.kept hg (.inr fun e => by have := (h.lt g e).1; omega)
theorem own_start {w : World} {base sz k c : Nat} {e : TypeId} {A : Option Addr} {vs : List Value} (h : w.ownsRow base e sz (.slice A k c) k vs) (hk : 0 < k) : ∃ g1, A = some ⟨g1, 0, none⟩ ∧ base ≤ g1 := by
  rcases h.2 with ⟨hv, _⟩ | ⟨g1, cap, cur, hv, hb, _⟩
  · simp only [Value.slice.injEq] at hv; omega
  · simp only [Value.slice.injEq, true_and] at hv
    exact ⟨g1, hv.1, hb⟩
/-- The list u of k numbers xs is owned, from the world a on, and the source is block g. -/
structure Ln (a : World) (B g N : Nat) (W : World) (u : Value) (k : Nat) (xs : List Int) : Prop where
  own : W.ownsRow a.heap.size 3 1 u k (ints xs)
  cur : Cur W B g N
  only : a.grownBy W (some g)
section
variable {a W W' : World} {B g N M k : Nat} {u u' : Value} {xs : List Int}
theorem Ln.start (h : Cur a B g N) : Ln a B g N a (.slice none 0 0) 0 [] := ⟨World.ownsRow_nil _ _ _ _, h, World.grownBy.refl _ _⟩
theorem Ln.ask (h : Ln a B g N W u k xs) (hlt : g < a.heap.size) (hc : Cur W' B g M) (hg : W.grownBy W' (some g)) : Ln a B g M W' u k xs := ⟨own_ask h.own hlt hg, hc, grow_trans h.only hg⟩
theorem Ln.alloc (h : Ln a B g N W u k xs) (o : Obj) : Ln a B g N (W.alloc o) u k xs := ⟨h.own.alloc o, h.cur.alloc o, only_alloc h.only o⟩
theorem Ln.len (h : Ln a B g N W u k xs) : xs.length = k := by have := h.own.1; rw [ints_length] at this; omega
theorem Ln.le (h : Ln a B g N W u k xs) (hN : N ≤ M) : Ln a B g M W u k xs := ⟨h.own, h.cur.le hN, h.only⟩
theorem Ln.form (h : Ln a B g N W u k xs) : ∃ A c, u = .slice A k c := by obtain ⟨_, A, c, e, _⟩ := Rd.of_own h.own; exact ⟨A, c, e⟩
theorem Ln.app (h : Ln a B g N W u k xs) {x : Int} (o : Obj) (ho : W'.ownsRow a.heap.size 3 1 u' (k + 1) (ints (xs ++ [x]))) (hlt : g < a.heap.size) (hg : (W.alloc o).grownBy W' u.ownBlock) : Ln a B g N W' u' (k + 1) (xs ++ [x]) :=
  ⟨ho, (h.cur.alloc o).grown hg (fun j hj => by have := (h.own.lt j hj).1; omega), only_grown (only_alloc h.only o) hg (fun j hj => .inr (h.own.lt j hj).1)⟩
end
end Go.Proofs.Ytnlneblipedddaa
