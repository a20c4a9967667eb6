/- A drawn way. Condition: the source's bytes can be read. -/
import Derived.Test.YtciolimmfldpbaaCurWay
import Derived.Test.YtciolimmfldpbaaCurInner
import Derived.Test.YtciolimmfldpbaaSpotS
import Derived.Test.YtciolimmfldpbaaLength
import Derived.Deep.DeepCutAuto
namespace Go.Proofs.Ytciolimmfldpbaa
open Go.RowKit

/-- The first k spots have coordinates of at most m. -/
def bnd (xs : List Int) (k : Nat) (m : Int) : Prop := ∀ j, j < k → (-m ≤ X xs j ∧ X xs j ≤ m) ∧ -m ≤ Y xs j ∧ Y xs j ≤ m
theorem XY_old {xs : List Int} {k j : Nat} (x y : Int) (hl : xs.length = k * 2) (h : j < k) : X (xs ++ [x, y]) j = X xs j ∧ Y (xs ++ [x, y]) j = Y xs j := by
  have a1 : j * 2 < xs.length := by omega
  have a2 : j * 2 + 1 < xs.length := by omega
  simp only [X, Y, List.getD]
  rw [List.getElem?_append_left a1, List.getElem?_append_left a2]
  exact ⟨rfl, rfl⟩
theorem XY_new {xs : List Int} {k : Nat} (x y : Int) (hl : xs.length = k * 2) : X (xs ++ [x, y]) k = x ∧ Y (xs ++ [x, y]) k = y := by
  simp only [X, Y, List.getD]
  rw [List.getElem?_append_right (by omega), List.getElem?_append_right (by omega), hl]
  simp
theorem bnd_app {xs : List Int} {k : Nat} {m m' x y : Int} (h : bnd xs k m) (hl : xs.length = k * 2) (hm : m ≤ m') (hx : -m' ≤ x ∧ x ≤ m') (hy : -m' ≤ y ∧ y ≤ m') : bnd (xs ++ [x, y]) (k + 1) m' := by
  intro j hj
  rcases Nat.lt_succ_iff_lt_or_eq.1 hj with g | rfl
  · obtain ⟨e1, e2⟩ := XY_old x y hl g
    have := h j g
    rw [e1, e2]; omega
  · obtain ⟨e1, e2⟩ := XY_new x y hl
    rw [e1, e2]; exact ⟨hx, hy⟩
theorem XY_set {xs : List Int} {k i : Nat} (x y : Int) (hl : xs.length = k * 2) (hi : i < k) (j : Nat) (hj : j < k) : (X ((xs.set (i * 2) x).set (i * 2 + 1) y) j = if j = i then x else X xs j) ∧ (Y ((xs.set (i * 2) x).set (i * 2 + 1) y) j = if j = i then y else Y xs j) := by
  simp only [X, Y, List.getD, List.getElem?_set, List.length_set]
  by_cases h : j = i
  · subst h
    have a1 : ¬ j * 2 + 1 = j * 2 := by omega
    have a2 : j * 2 < xs.length := by omega
    have a3 : j * 2 + 1 < xs.length := by omega
    simp [a2, a3]
  · have a1 : ¬ i * 2 + 1 = j * 2 := by omega
    have a2 : ¬ i * 2 = j * 2 := by omega
    have a3 : ¬ i * 2 + 1 = j * 2 + 1 := by omega
    have a4 : ¬ i * 2 = j * 2 + 1 := by omega
    simp [h, a1, a2, a4]
theorem bnd_set {xs : List Int} {k i : Nat} {m x y : Int} (h : bnd xs k m) (hl : xs.length = k * 2) (hi : i < k) (hx : -m ≤ x ∧ x ≤ m) (hy : -m ≤ y ∧ y ≤ m) : bnd ((xs.set (i * 2) x).set (i * 2 + 1) y) k m := by
  intro j hj
  obtain ⟨e1, e2⟩ := XY_set x y hl hi j hj
  rw [e1, e2]
  split
  · exact ⟨hx, hy⟩
  · exact h j hj
theorem bnd_mono {xs : List Int} {k : Nat} {m m' : Int} (h : bnd xs k m) (hm : m ≤ m') : bnd xs k m' := fun j hj => by have := h j hj; omega
/-- The parts among the first k spots are short. -/
def short (xs : List Int) (k : Nat) : Prop := ∀ j, j + 1 < k → farAt xs j ≤ 60
/-- The parts that do not touch some one spot are short. -/
def shortBut (xs : List Int) (k : Nat) : Prop := ∃ i, ∀ j, j + 1 < k → j ≠ i → j + 1 ≠ i → farAt xs j ≤ 60
theorem short_app {xs : List Int} {k : Nat} {x y : Int} (h : short xs k) (hl : xs.length = k * 2) (hn : farL (X xs (k - 1)) (Y xs (k - 1)) x y ≤ 60) : short (xs ++ [x, y]) (k + 1) := by
  intro j hj
  obtain ⟨e1, e2⟩ := XY_old x y hl (show j < k by omega)
  rcases Nat.lt_or_ge (j + 1) k with g | g
  · obtain ⟨e3, e4⟩ := XY_old x y hl g
    have := h j g
    unfold farAt at this ⊢
    rw [e1, e2, e3, e4]; exact this
  · obtain rfl : k = j + 1 := by omega
    obtain ⟨e3, e4⟩ := XY_new x y hl
    unfold farAt
    rw [e1, e2, e3, e4]; exact hn
theorem short_set {xs : List Int} {k i : Nat} {x y : Int} (h : short xs k) (hl : xs.length = k * 2) (hi : i < k) : shortBut ((xs.set (i * 2) x).set (i * 2 + 1) y) k := by
  refine ⟨i, fun j hj h1 h2 => ?_⟩
  obtain ⟨e1, e2⟩ := XY_set x y hl hi j (by omega)
  obtain ⟨e3, e4⟩ := XY_set x y hl hi (j + 1) hj
  have := h j hj
  unfold farAt at this ⊢
  rw [e1, e2, e3, e4, if_neg h1, if_neg h1, if_neg h2, if_neg h2]; exact this
theorem short_but {xs : List Int} {k : Nat} (h : short xs k) : shortBut xs k := ⟨k + 1, fun j hj _ _ => h j hj⟩
theorem far_x (p q z : Int) (h : -60 ≤ z ∧ z ≤ 60) : farL p q (p + z) q ≤ 60 := by
  have a := ab_cases (p + z - p)
  have b : ab (q - q) = 0 := by rw [Int.sub_self]; rfl
  unfold farL; omega
theorem far_y (p q z : Int) (h : -60 ≤ z ∧ z ≤ 60) : farL p q p (q + z) ≤ 60 := by
  have a := ab_cases (q + z - q)
  have b : ab (p - p) = 0 := by rw [Int.sub_self]; rfl
  unfold farL; omega
theorem far_0 (p q : Int) : farL p q p q ≤ 60 := by
  have a : ab (p - p) = 0 := by rw [Int.sub_self]; rfl
  have b : ab (q - q) = 0 := by rw [Int.sub_self]; rfl
  unfold farL; omega
/-- What the call owns, while the source is asked. -/
theorem own_g {W W' : World} {base g sz n : Nat} {e : TypeId} {v : Value} {vs : List Value} (h : W.ownsRow base e sz v n vs) (hlt : g < base) (hg : W.grownBy W' (some g)) : W'.ownsRow base e sz v n vs :=
  h.kept hg (.inr fun e => by have := (h.lt g e).1; omega)
theorem own_one (w : World) (x y : Int) (base : Nat) (hb : base ≤ w.heap.size) : (w.alloc (.cells #[.int .i64 x, .int .i64 y] 29)).ownsRow base 29 2 (.slice (some ⟨w.heap.size, 0, none⟩) 1 1) 1 (ints [x, y]) :=
  ⟨by simp [ints], .inr ⟨w.heap.size, 1, #[.int .i64 x, .int .i64 y], rfl, hb, heap_alloc_new w _, Nat.le_refl _, by unfold maxLen; omega, rfl, by first | rfl | simp [ints]⟩⟩
theorem own_head {w : World} {base k c : Nat} {e : TypeId} {A : Option Addr} {vs : List Value} (h : w.ownsRow base e 2 (.slice A k c) k vs) (hk : 0 < k) : ∃ g1, A = some ⟨g1, 0, none⟩ ∧ base ≤ g1 := by
  rcases h.2 with ⟨hv, _⟩ | ⟨g1, cap, cur, hv, hb, _⟩
  · simp only [Value.slice.injEq] at hv; omega
  · simp only [Value.slice.injEq, true_and] at hv
    exact ⟨g1, hv.1, hb⟩
/-- A list of spots is handed out. -/
def HandsWay (B g N : Nat) (w : World) (e : Ending) (w' : World) : Prop :=
  ∃ (u : Value) (n : Nat) (xs : List Int), e = .returned u ∧ w'.ownsRow w.heap.size 29 2 u n (ints xs) ∧ 1 ≤ n ∧ n ≤ 14 ∧ (bnd xs n 4000 ∧ shortBut xs n) ∧ Cur w' B g N ∧ w.grownBy w' (some g)
/-- The list in the midst of the draw. -/
structure Wy (w : World) (B g N : Nat) (W : World) (u : Value) (k : Nat) (xs : List Int) (m : Int) : Prop where
  own : W.ownsRow w.heap.size 29 2 u k (ints xs)
  bd : bnd xs k m
  sh : short xs k
  cur : Cur W B g N
  only : w.grownBy W (some g)
theorem Wy.ask {w W W' : World} {B g N M k : Nat} {u : Value} {xs : List Int} {m : Int} (h : Wy w B g N W u k xs m) (hlt : g < w.heap.size) (hc : Cur W' B g M) (hg : W.grownBy W' (some g)) : Wy w B g M W' u k xs m :=
  ⟨own_g h.own hlt hg, h.bd, h.sh, hc, grow_trans h.only hg⟩
theorem Wy.alloc {w W : World} {B g N k : Nat} {u : Value} {xs : List Int} {m : Int} (h : Wy w B g N W u k xs m) (o : Obj) : Wy w B g N (W.alloc o) u k xs m :=
  ⟨h.own.alloc o, h.bd, h.sh, h.cur.alloc o, only_alloc h.only o⟩
theorem Wy.len {w W : World} {B g N k : Nat} {u : Value} {xs : List Int} {m : Int} (h : Wy w B g N W u k xs m) : xs.length = k * 2 := by have := h.own.1; rwa [ints_length] at this

def sl : Value → Nat | .slice _ n _ => n | _ => 0
theorem own_form {w : World} {base n : Nat} {u : Value} {xs : List Int} (h : w.ownsRow base 29 2 u n (ints xs)) : ∃ A c, u = .slice A n c := (Rd.of_own h).form
theorem Wy.set {w W : World} {B g N k : Nat} {u : Value} {xs : List Int} {m : Int} (h : Wy w B g N W u k xs m) {p : Addr} (hb : u.ownBlock ≠ some p.block) (hg : g < p.block) (hw : w.heap.size ≤ p.block) (v : Value) : Wy w B g N (W.setCell p v) u k xs m :=
  ⟨h.own.kept (only_setCell (World.grownBy.refl W (some p.block)) rfl v) (.inr hb), h.bd, h.sh, h.cur.setCell hg v, only_set h.only hw v⟩
theorem Wy.app {w W W' : World} {B g N M k : Nat} {u u' : Value} {xs : List Int} {m m' x y : Int} (h : Wy w B g N W u k xs m) (hlt : g < w.heap.size) (hM : N ≤ M) (hm : m ≤ m') (hx : -m' ≤ x ∧ x ≤ m') (hy : -m' ≤ y ∧ y ≤ m') (hf : farL (X xs (k - 1)) (Y xs (k - 1)) x y ≤ 60) (o : Obj)
    (ho : W'.ownsRow w.heap.size 29 2 u' (k + 1) (ints (xs ++ [x, y]))) (hg : (W.alloc o).grownBy W' u.ownBlock) : Wy w B g M W' u' (k + 1) (xs ++ [x, y]) m' :=
  ⟨ho, bnd_app h.bd h.len hm hx hy, short_app h.sh h.len hf, ((h.cur.alloc o).grown hg (fun j hj => by have := (h.own.lt j hj).1; omega)).le hM, only_grown (only_alloc h.only o) hg (fun j hj => .inr (h.own.lt j hj).1)⟩
set_option maxRecDepth 100000 in
set_option maxHeartbeats 4000000 in
theorem way_any (B g N : Nat) (w : World) (h : Cur w B g N) (hN : N ≤ 100000000) : Calls Try.prog 43 #[.pointer (some ⟨g, 0, none⟩)] w (HandsWay B g (N + 300) w) := by
  have hlt := h.lt
  have H := Lib.hid h
  clear h
  go_enter Try.func43, Try.ntmps43
  go_wp2_with fail
  refine (inner_any B g N _ H.out (by omega)).mono ?_
  rintro e w1 ⟨x, y, ⟨b1, b2, b3, b4⟩, rfl, hc, hg⟩
  have Y1 := Lib.hid (show Wy w B g (N + 4) (w1.alloc (.cells #[.int .i64 x, .int .i64 y] 29)) (.slice (some ⟨w1.heap.size, 0, none⟩) 1 1) 1 [x, y] 2100 from
    ⟨own_one w1 x y _ hg.size, (bnd_app (xs := []) (k := 0) (m := 0) (fun j hj => absurd hj (by omega)) rfl (by omega) (by omega) (by omega)), fun j hj => absurd hj (by omega), hc.alloc _, only_alloc hg _⟩)
  clear hc hg
  go_wp2_with fail
  refine (pick_any B g (N + 4) 5 _ Y1.out.cur (by omega) (by omega)).mono ?_
  rintro e w2 ⟨r, r0, r1, rfl, hc, hg⟩
  simp [pickHi] at r1
  have Y2 := Lib.hid (Y1.out.ask hlt hc hg)
  clear hc hg Y1
  go_wp2_with fail
  refine (one_any B g (N + 4 + 2) 20 _ Y2.out.cur (by omega) (by omega)).mono ?_
  rintro e w3 ⟨t, rfl, hc, hg⟩
  have Y3 := Lib.hid (Y2.out.ask hlt hc hg)
  clear hc hg Y2
  cases t with
  | true =>
    have A3 := Lib.hid (Blk.new w3 3 (ints [1, 12, 13]).toArray)
    have Y39 := Lib.hid (Y3.out.alloc (.cells (ints [1, 12, 13]).toArray 3))
    go_wp2_with fail
    refine (among_blk B g (N + 4 + 2 + 2) w3.heap.size _ [1, 12, 13] 1 13 _ Y39.out.cur (by omega) Y3.out.cur.lt A3.out (by simp) (by simp) (by simp)).mono ?_
    rintro e w4 ⟨m, m0, m1, rfl, hc, hg⟩
    have Y4 := Lib.hid (Y39.out.ask hlt (hc.le (show N + 4 + 2 + 2 + 2 ≤ N + 20 + 10 * 1 by omega)) hg)
    clear hc hg Y3 A3 Y39
    go_wp2_with fail
    go_loopw [3] (fun u wr => ∃ (k : Nat) (ys : List Int) (A : Option Addr) (c : Nat), u = .slice A k c ∧ 1 ≤ k ∧ k ≤ 13 ∧ Wy w B g (N + 20 + 10 * k) wr u k ys (2000 + 100 * (k : Int))) (fun u _ => 13 - sl u)
    case atStart => exact ⟨1, [x, y], _, _, rfl, by omega, by omega, Y4.out⟩
    case round =>
      clear Y4
      obtain ⟨k, ys, A, c, rfl, hk1, hk13, hy⟩ := hrel
      have V := Lib.hid hy
      clear hy
      by_cases hlm : (k : Int) < m
      · obtain ⟨b, off, hA, hbB, hc⟩ := (Rd.of_own V.out.own).spot (show 0 < k by omega)
        subst hA
        obtain ⟨c0, c1⟩ := hc (k - 1) (by omega)
        have hbd := V.out.bd (k - 1) (by omega)
        obtain ⟨p, ep⟩ : ∃ a, X ys (k - 1) = a := ⟨_, rfl⟩
        obtain ⟨q, eq⟩ : ∃ a, Y ys (k - 1) = a := ⟨_, rfl⟩
        rw [ep] at c0 hbd
        rw [eq] at c1 hbd
        obtain ⟨⟨d1, d2⟩, d3, d4⟩ := hbd
        have i2 : (0 : Int) ≤ (k : Int) - 1 := by omega
        have i3 : (k : Int) - 1 < (k : Int) := by omega
        have i4 : ((k : Int) - 1).toNat = k - 1 := by omega
        have i5 := IntWalk.i64_in ((k : Int) - 1) (by omega)
        have hne : (Value.slice (some ⟨b, off, none⟩) k c).ownBlock ≠ some wr.heap.size := fun e => by have := (V.out.own.lt _ e).2; omega
        have hgw : g < wr.heap.size := V.out.cur.lt
        have hww : w.heap.size ≤ wr.heap.size := V.out.only.size
        have HNe := Lib.hid hne
        have L5 := Lib.hid (Blk.new wr 29 #[.int .i64 p, .int .i64 q])
        have Y5 := Lib.hid (V.out.alloc (.cells #[.int .i64 p, .int .i64 q] 29))
        have EP := Lib.hid ep
        have EQ := Lib.hid eq
        clear hc ep eq hne V
        go_wp2_with fail
        refine (pick_any B g (N + 20 + 10 * k) 60 _ Y5.out.cur (by omega) (by omega)).mono ?_
        rintro e w6 ⟨x6, x60, x61, rfl, hc, hg⟩
        simp [pickHi] at x61
        have Y6 := Lib.hid (Y5.out.ask hlt hc hg)
        have L6 := Lib.hid (L5.out.grown' hg (by omega))
        clear hc hg Y5 L5 c0 c1 i2 i3 i4 i5
        have A7 := Lib.hid (Blk.new w6 3 (ints [8, 16, 40, -8, -16, -40, 1 + x6]).toArray)
        have Y69 := Lib.hid (Y6.out.alloc (.cells (ints [8, 16, 40, -8, -16, -40, 1 + x6]).toArray 3))
        have L69 := Lib.hid (L6.out.alloc (.cells (ints [8, 16, 40, -8, -16, -40, 1 + x6]).toArray 3))
        go_wp2_with fail
        refine (among_blk B g (N + 20 + 10 * k + 2) w6.heap.size _ [8, 16, 40, -8, -16, -40, 1 + x6] (-40) 60 _ Y69.out.cur (by omega) Y6.out.cur.lt A7.out (by simp) (by simp) (by simp; omega)).mono ?_
        rintro e w7 ⟨z, z0, z1, rfl, hc, hg⟩
        have Y7 := Lib.hid (Y69.out.ask hlt hc hg)
        have L7 := Lib.hid (L69.out.grown' hg (by omega))
        clear hc hg Y69 L69 Y6 L6 A7
        go_wp2_with fail
        refine (one_any B g (N + 20 + 10 * k + 2 + 2) 2 _ Y7.out.cur (by omega) (by omega)).mono ?_
        rintro e w8 ⟨t, rfl, hc, hg⟩
        have Y8 := Lib.hid (Y7.out.ask hlt hc hg)
        have L8 := Lib.hid (L7.out.grown' hg (by omega))
        clear hc hg Y7 L7
        obtain ⟨a0, a1⟩ := L8.out.c2
        have a2 := L8.out.frozen 0
        have a3 := L8.out.frozen 1
        cases t with
        | true =>
          have hX := L8.out.set_ 0 (.int .i64 (p + z))
          simp at hX
          have L9 := Lib.hid hX
          have Y9 := Lib.hid (Y8.out.set (p := ⟨wr.heap.size, 0, none⟩) HNe.out hgw hww (.int .i64 (p + z)))
          clear hX L8 Y8
          go_upto_region 11 with (fail)
          generalize World.setCell w8 ⟨wr.heap.size, 0, none⟩ (Value.int .i64 (p + z)) = w9 at L9 Y9 ⊢
          clear a0 a1 a2 a3
          obtain ⟨a0, a1⟩ := L9.out.c2
          have HO := Lib.hid (Y9.out.own.alloc (.cells #[.int .i64 (p + z), .int .i64 q] 29))
          have n0 := (Blk.new w9 29 #[.int .i64 (p + z), .int .i64 q]).c2
          have hsz := Y9.out.only.size
          obtain ⟨n0, n1⟩ := n0
          go_wp2_with (at_builtin; refine app_spot rfl _ _ rfl w.heap.size _ k _ rfl HO.out w9.heap.size (p + z) q rfl n0 n1 (by omega) (by simp; omega) ?_; intro v' w10 ho hg)
          have Y10 := Lib.hid (Y9.out.app (M := N + 20 + 10 * (k + 1)) (m' := 2000 + 100 * ((k + 1 : Nat) : Int)) hlt (by omega) (by omega) (by omega) (by omega) (by rw [EP.out, EQ.out]; exact far_x p q z (by omega)) _ ho hg)
          obtain ⟨A', c', rfl⟩ := own_form ho
          clear ho hg n0 n1 a0 a1 L9 Y9 HO
          go_wp2_with fail
          go_roundw
          case rel => exact ⟨k + 1, _, _, _, rfl, by omega, by omega, Y10.out⟩
          case measure => simp [sl]; omega
        | false =>
          have hX := L8.out.set_ 1 (.int .i64 (q + z))
          simp at hX
          have L9 := Lib.hid hX
          have Y9 := Lib.hid (Y8.out.set (p := ⟨wr.heap.size, 1, none⟩) HNe.out hgw hww (.int .i64 (q + z)))
          clear hX L8 Y8
          go_upto_region 11 with (fail)
          generalize World.setCell w8 ⟨wr.heap.size, 1, none⟩ (Value.int .i64 (q + z)) = w9 at L9 Y9 ⊢
          clear a0 a1 a2 a3
          obtain ⟨a0, a1⟩ := L9.out.c2
          have HO := Lib.hid (Y9.out.own.alloc (.cells #[.int .i64 p, .int .i64 (q + z)] 29))
          have n0 := (Blk.new w9 29 #[.int .i64 p, .int .i64 (q + z)]).c2
          have hsz := Y9.out.only.size
          obtain ⟨n0, n1⟩ := n0
          go_wp2_with (at_builtin; refine app_spot rfl _ _ rfl w.heap.size _ k _ rfl HO.out w9.heap.size p (q + z) rfl n0 n1 (by omega) (by simp; omega) ?_; intro v' w10 ho hg)
          have Y10 := Lib.hid (Y9.out.app (M := N + 20 + 10 * (k + 1)) (m' := 2000 + 100 * ((k + 1 : Nat) : Int)) hlt (by omega) (by omega) (by omega) (by omega) (by rw [EP.out, EQ.out]; exact far_y p q z (by omega)) _ ho hg)
          obtain ⟨A', c', rfl⟩ := own_form ho
          clear ho hg n0 n1 a0 a1 L9 Y9 HO
          go_wp2_with fail
          go_roundw
          case rel => exact ⟨k + 1, _, _, _, rfl, by omega, by omega, Y10.out⟩
          case measure => simp [sl]; omega
      · obtain ⟨g1, hA, hge⟩ := own_head V.out.own (show 0 < k by omega)
        subst hA
        have hgg : g < g1 := by omega
        go_wp2_with fail
        refine (pick_any B g (N + 20 + 10 * k) 30 _ V.out.cur (by omega) (by omega)).mono ?_
        rintro e w6 ⟨r6, r60, r61, rfl, hc, hg⟩
        have V6 := Lib.hid (V.out.ask hlt hc hg)
        clear hc hg V
        cases h0 : (r6 == 0) with
        | true =>
          go_wp2_with fail
          refine (pick_any B g (N + 20 + 10 * k + 2) (k : Int) _ V6.out.cur (by omega) (by omega)).mono ?_
          rintro e w7 ⟨j, j0, j1, rfl, hc, hg⟩
          have V7 := Lib.hid (V6.out.ask hlt hc hg)
          have j2 : j < (k : Int) := by unfold pickHi at j1; split at j1 <;> omega
          obtain ⟨j, rfl⟩ := Int.eq_ofNat_of_zero_le j0
          clear hc hg V6 j1
          go_wp2_with fail
          refine (anySpot_any B g (N + 20 + 10 * k + 2 + 2) _ V7.out.cur (by omega)).mono ?_
          rintro e w8 ⟨p, q, ⟨d1, d2, d3, d4⟩, rfl, hc, hg⟩
          have V8 := Lib.hid (V7.out.ask hlt hc hg)
          clear hc hg V7
          have hjk : j < k := by omega
          have hl := V8.out.len
          have s0 := (V8.out.own.cellAt (j * 2) (by omega)).trans (ints_get _ _ (by omega))
          have s1 := (V8.out.own.cellAt (j * 2 + 1) (by omega)).trans (ints_get _ _ (by omega))
          have f0 : w8.frozen? ⟨g1, j * 2, none⟩ = false := V8.out.own.frozenAt _
          have f1 : w8.frozen? ⟨g1, j * 2 + 1, none⟩ = false := V8.out.own.frozenAt _
          have hown2 := (((V8.out.own.stored (j * 2) (.int .i64 p)).1).stored (j * 2 + 1) (.int .i64 q)).1
          rw [ints_set, ints_set] at hown2
          have HO := Lib.hid hown2
          have HB1 := Lib.hid (bnd_set (bnd_mono V8.out.bd (show 2000 + 100 * (k : Int) ≤ 4000 by omega)) hl hjk (x := p) (y := q) (by omega) (by omega))
          have HS1 := Lib.hid (short_set V8.out.sh hl hjk (x := p) (y := q))
          have HC := Lib.hid ((V8.out.cur.setCell (p := ⟨g1, j * 2, none⟩) hgg (.int .i64 p)).setCell (p := ⟨g1, j * 2 + 1, none⟩) hgg (.int .i64 q))
          have HG := Lib.hid (only_set (p := ⟨g1, j * 2 + 1, none⟩) (only_set (p := ⟨g1, j * 2, none⟩) V8.out.only hge (.int .i64 p)) hge (.int .i64 q))
          clear hown2 V8 hl
          go_wp2_with fail
          go_ret
          exact ⟨_, k, _, rfl, HO.out, hk1, by omega, ⟨HB1.out, HS1.out⟩, HC.out.le (by omega), HG.out⟩
        | false =>
          cases h1 : (r6 == 1) with
          | true =>
            obtain ⟨b, off, hA, hbB, hc⟩ := (Rd.of_own V6.out.own).spot (show 0 < k by omega)
            simp only [Option.some.injEq, Addr.mk.injEq, and_true] at hA
            obtain ⟨rfl, rfl⟩ := hA
            obtain ⟨c0, c1⟩ := hc (k - 1) (by omega)
            rw [Nat.zero_add] at c0 c1
            have i5 := IntWalk.i64_in ((k : Int) - 1) (by omega)
            have hbd := V6.out.bd (k - 1) (by omega)
            obtain ⟨p, ep⟩ : ∃ a, X ys (k - 1) = a := ⟨_, rfl⟩
            obtain ⟨q, eq⟩ : ∃ a, Y ys (k - 1) = a := ⟨_, rfl⟩
            rw [ep] at c0 hbd
            rw [eq] at c1 hbd
            obtain ⟨⟨d1, d2⟩, d3, d4⟩ := hbd
            have i2 : (0 : Int) ≤ (k : Int) - 1 := by omega
            have i3 : (k : Int) - 1 < (k : Int) := by omega
            have i4 : ((k : Int) - 1).toNat = k - 1 := by omega
            have HO := Lib.hid (V6.out.own.alloc (.cells #[.int .i64 p, .int .i64 q] 29))
            have n0 := (Blk.new w6 29 #[.int .i64 p, .int .i64 q]).c2
            have hsz := V6.out.only.size
            obtain ⟨n0, n1⟩ := n0
            have EP := Lib.hid ep
            have EQ := Lib.hid eq
            clear hc ep eq
            go_wp2_with (at_builtin; refine app_spot rfl _ _ rfl w.heap.size _ k _ rfl HO.out w6.heap.size p q rfl n0 n1 (by omega) (by simp; omega) ?_; intro v' w10 ho hg)
            have Y10 := Lib.hid (V6.out.app (M := N + 300) (m' := 4000) hlt (by omega) (by omega) (by omega) (by omega) (by rw [EP.out, EQ.out]; exact far_0 p q) _ ho hg)
            clear ho hg n0 n1 c0 c1
            go_wp2_with fail
            go_ret
            exact ⟨_, k + 1, _, rfl, Y10.out.own, by omega, by omega, ⟨Y10.out.bd, short_but Y10.out.sh⟩, Y10.out.cur, Y10.out.only⟩
          | false =>
            go_wp2_with fail
            go_ret
            exact ⟨_, k, _, rfl, V6.out.own, hk1, by omega, ⟨bnd_mono V6.out.bd (by omega), short_but V6.out.sh⟩, V6.out.cur.le (by omega), V6.out.only⟩
  | false =>
    have m0 : 1 ≤ 2 + r := by omega
    have m1 : 2 + r ≤ 13 := by omega
    obtain ⟨m, em⟩ : ∃ m, 2 + r = m := ⟨_, rfl⟩
    rw [em] at m0 m1
    rw [em]
    have Y4 := Lib.hid (show Wy w B g (N + 20 + 10 * 1) w3 (.slice (some ⟨w1.heap.size, 0, none⟩) 1 1) 1 [x, y] 2100 from ⟨Y3.out.own, Y3.out.bd, Y3.out.sh, Y3.out.cur.le (by omega), Y3.out.only⟩)
    clear em Y3
    go_wp2_with fail
    go_loopw [3] (fun u wr => ∃ (k : Nat) (ys : List Int) (A : Option Addr) (c : Nat), u = .slice A k c ∧ 1 ≤ k ∧ k ≤ 13 ∧ Wy w B g (N + 20 + 10 * k) wr u k ys (2000 + 100 * (k : Int))) (fun u _ => 13 - sl u)
    case atStart => exact ⟨1, [x, y], _, _, rfl, by omega, by omega, Y4.out⟩
    case round =>
      clear Y4
      obtain ⟨k, ys, A, c, rfl, hk1, hk13, hy⟩ := hrel
      have V := Lib.hid hy
      clear hy
      by_cases hlm : (k : Int) < m
      · obtain ⟨b, off, hA, hbB, hc⟩ := (Rd.of_own V.out.own).spot (show 0 < k by omega)
        subst hA
        obtain ⟨c0, c1⟩ := hc (k - 1) (by omega)
        have hbd := V.out.bd (k - 1) (by omega)
        obtain ⟨p, ep⟩ : ∃ a, X ys (k - 1) = a := ⟨_, rfl⟩
        obtain ⟨q, eq⟩ : ∃ a, Y ys (k - 1) = a := ⟨_, rfl⟩
        rw [ep] at c0 hbd
        rw [eq] at c1 hbd
        obtain ⟨⟨d1, d2⟩, d3, d4⟩ := hbd
        have i2 : (0 : Int) ≤ (k : Int) - 1 := by omega
        have i3 : (k : Int) - 1 < (k : Int) := by omega
        have i4 : ((k : Int) - 1).toNat = k - 1 := by omega
        have i5 := IntWalk.i64_in ((k : Int) - 1) (by omega)
        have hne : (Value.slice (some ⟨b, off, none⟩) k c).ownBlock ≠ some wr.heap.size := fun e => by have := (V.out.own.lt _ e).2; omega
        have hgw : g < wr.heap.size := V.out.cur.lt
        have hww : w.heap.size ≤ wr.heap.size := V.out.only.size
        have HNe := Lib.hid hne
        have L5 := Lib.hid (Blk.new wr 29 #[.int .i64 p, .int .i64 q])
        have Y5 := Lib.hid (V.out.alloc (.cells #[.int .i64 p, .int .i64 q] 29))
        have EP := Lib.hid ep
        have EQ := Lib.hid eq
        clear hc ep eq hne V
        go_wp2_with fail
        refine (pick_any B g (N + 20 + 10 * k) 60 _ Y5.out.cur (by omega) (by omega)).mono ?_
        rintro e w6 ⟨x6, x60, x61, rfl, hc, hg⟩
        simp [pickHi] at x61
        have Y6 := Lib.hid (Y5.out.ask hlt hc hg)
        have L6 := Lib.hid (L5.out.grown' hg (by omega))
        clear hc hg Y5 L5 c0 c1 i2 i3 i4 i5
        have A7 := Lib.hid (Blk.new w6 3 (ints [8, 16, 40, -8, -16, -40, 1 + x6]).toArray)
        have Y69 := Lib.hid (Y6.out.alloc (.cells (ints [8, 16, 40, -8, -16, -40, 1 + x6]).toArray 3))
        have L69 := Lib.hid (L6.out.alloc (.cells (ints [8, 16, 40, -8, -16, -40, 1 + x6]).toArray 3))
        go_wp2_with fail
        refine (among_blk B g (N + 20 + 10 * k + 2) w6.heap.size _ [8, 16, 40, -8, -16, -40, 1 + x6] (-40) 60 _ Y69.out.cur (by omega) Y6.out.cur.lt A7.out (by simp) (by simp) (by simp; omega)).mono ?_
        rintro e w7 ⟨z, z0, z1, rfl, hc, hg⟩
        have Y7 := Lib.hid (Y69.out.ask hlt hc hg)
        have L7 := Lib.hid (L69.out.grown' hg (by omega))
        clear hc hg Y69 L69 Y6 L6 A7
        go_wp2_with fail
        refine (one_any B g (N + 20 + 10 * k + 2 + 2) 2 _ Y7.out.cur (by omega) (by omega)).mono ?_
        rintro e w8 ⟨t, rfl, hc, hg⟩
        have Y8 := Lib.hid (Y7.out.ask hlt hc hg)
        have L8 := Lib.hid (L7.out.grown' hg (by omega))
        clear hc hg Y7 L7
        obtain ⟨a0, a1⟩ := L8.out.c2
        have a2 := L8.out.frozen 0
        have a3 := L8.out.frozen 1
        cases t with
        | true =>
          have hX := L8.out.set_ 0 (.int .i64 (p + z))
          simp at hX
          have L9 := Lib.hid hX
          have Y9 := Lib.hid (Y8.out.set (p := ⟨wr.heap.size, 0, none⟩) HNe.out hgw hww (.int .i64 (p + z)))
          clear hX L8 Y8
          go_upto_region 11 with (fail)
          generalize World.setCell w8 ⟨wr.heap.size, 0, none⟩ (Value.int .i64 (p + z)) = w9 at L9 Y9 ⊢
          clear a0 a1 a2 a3
          obtain ⟨a0, a1⟩ := L9.out.c2
          have HO := Lib.hid (Y9.out.own.alloc (.cells #[.int .i64 (p + z), .int .i64 q] 29))
          have n0 := (Blk.new w9 29 #[.int .i64 (p + z), .int .i64 q]).c2
          have hsz := Y9.out.only.size
          obtain ⟨n0, n1⟩ := n0
          go_wp2_with (at_builtin; refine app_spot rfl _ _ rfl w.heap.size _ k _ rfl HO.out w9.heap.size (p + z) q rfl n0 n1 (by omega) (by simp; omega) ?_; intro v' w10 ho hg)
          have Y10 := Lib.hid (Y9.out.app (M := N + 20 + 10 * (k + 1)) (m' := 2000 + 100 * ((k + 1 : Nat) : Int)) hlt (by omega) (by omega) (by omega) (by omega) (by rw [EP.out, EQ.out]; exact far_x p q z (by omega)) _ ho hg)
          obtain ⟨A', c', rfl⟩ := own_form ho
          clear ho hg n0 n1 a0 a1 L9 Y9 HO
          go_wp2_with fail
          go_roundw
          case rel => exact ⟨k + 1, _, _, _, rfl, by omega, by omega, Y10.out⟩
          case measure => simp [sl]; omega
        | false =>
          have hX := L8.out.set_ 1 (.int .i64 (q + z))
          simp at hX
          have L9 := Lib.hid hX
          have Y9 := Lib.hid (Y8.out.set (p := ⟨wr.heap.size, 1, none⟩) HNe.out hgw hww (.int .i64 (q + z)))
          clear hX L8 Y8
          go_upto_region 11 with (fail)
          generalize World.setCell w8 ⟨wr.heap.size, 1, none⟩ (Value.int .i64 (q + z)) = w9 at L9 Y9 ⊢
          clear a0 a1 a2 a3
          obtain ⟨a0, a1⟩ := L9.out.c2
          have HO := Lib.hid (Y9.out.own.alloc (.cells #[.int .i64 p, .int .i64 (q + z)] 29))
          have n0 := (Blk.new w9 29 #[.int .i64 p, .int .i64 (q + z)]).c2
          have hsz := Y9.out.only.size
          obtain ⟨n0, n1⟩ := n0
          go_wp2_with (at_builtin; refine app_spot rfl _ _ rfl w.heap.size _ k _ rfl HO.out w9.heap.size p (q + z) rfl n0 n1 (by omega) (by simp; omega) ?_; intro v' w10 ho hg)
          have Y10 := Lib.hid (Y9.out.app (M := N + 20 + 10 * (k + 1)) (m' := 2000 + 100 * ((k + 1 : Nat) : Int)) hlt (by omega) (by omega) (by omega) (by omega) (by rw [EP.out, EQ.out]; exact far_y p q z (by omega)) _ ho hg)
          obtain ⟨A', c', rfl⟩ := own_form ho
          clear ho hg n0 n1 a0 a1 L9 Y9 HO
          go_wp2_with fail
          go_roundw
          case rel => exact ⟨k + 1, _, _, _, rfl, by omega, by omega, Y10.out⟩
          case measure => simp [sl]; omega
      · obtain ⟨g1, hA, hge⟩ := own_head V.out.own (show 0 < k by omega)
        subst hA
        have hgg : g < g1 := by omega
        go_wp2_with fail
        refine (pick_any B g (N + 20 + 10 * k) 30 _ V.out.cur (by omega) (by omega)).mono ?_
        rintro e w6 ⟨r6, r60, r61, rfl, hc, hg⟩
        have V6 := Lib.hid (V.out.ask hlt hc hg)
        clear hc hg V
        cases h0 : (r6 == 0) with
        | true =>
          go_wp2_with fail
          refine (pick_any B g (N + 20 + 10 * k + 2) (k : Int) _ V6.out.cur (by omega) (by omega)).mono ?_
          rintro e w7 ⟨j, j0, j1, rfl, hc, hg⟩
          have V7 := Lib.hid (V6.out.ask hlt hc hg)
          have j2 : j < (k : Int) := by unfold pickHi at j1; split at j1 <;> omega
          obtain ⟨j, rfl⟩ := Int.eq_ofNat_of_zero_le j0
          clear hc hg V6 j1
          go_wp2_with fail
          refine (anySpot_any B g (N + 20 + 10 * k + 2 + 2) _ V7.out.cur (by omega)).mono ?_
          rintro e w8 ⟨p, q, ⟨d1, d2, d3, d4⟩, rfl, hc, hg⟩
          have V8 := Lib.hid (V7.out.ask hlt hc hg)
          clear hc hg V7
          have hjk : j < k := by omega
          have hl := V8.out.len
          have s0 := (V8.out.own.cellAt (j * 2) (by omega)).trans (ints_get _ _ (by omega))
          have s1 := (V8.out.own.cellAt (j * 2 + 1) (by omega)).trans (ints_get _ _ (by omega))
          have f0 : w8.frozen? ⟨g1, j * 2, none⟩ = false := V8.out.own.frozenAt _
          have f1 : w8.frozen? ⟨g1, j * 2 + 1, none⟩ = false := V8.out.own.frozenAt _
          have hown2 := (((V8.out.own.stored (j * 2) (.int .i64 p)).1).stored (j * 2 + 1) (.int .i64 q)).1
          rw [ints_set, ints_set] at hown2
          have HO := Lib.hid hown2
          have HB1 := Lib.hid (bnd_set (bnd_mono V8.out.bd (show 2000 + 100 * (k : Int) ≤ 4000 by omega)) hl hjk (x := p) (y := q) (by omega) (by omega))
          have HS1 := Lib.hid (short_set V8.out.sh hl hjk (x := p) (y := q))
          have HC := Lib.hid ((V8.out.cur.setCell (p := ⟨g1, j * 2, none⟩) hgg (.int .i64 p)).setCell (p := ⟨g1, j * 2 + 1, none⟩) hgg (.int .i64 q))
          have HG := Lib.hid (only_set (p := ⟨g1, j * 2 + 1, none⟩) (only_set (p := ⟨g1, j * 2, none⟩) V8.out.only hge (.int .i64 p)) hge (.int .i64 q))
          clear hown2 V8 hl
          go_wp2_with fail
          go_ret
          exact ⟨_, k, _, rfl, HO.out, hk1, by omega, ⟨HB1.out, HS1.out⟩, HC.out.le (by omega), HG.out⟩
        | false =>
          cases h1 : (r6 == 1) with
          | true =>
            obtain ⟨b, off, hA, hbB, hc⟩ := (Rd.of_own V6.out.own).spot (show 0 < k by omega)
            simp only [Option.some.injEq, Addr.mk.injEq, and_true] at hA
            obtain ⟨rfl, rfl⟩ := hA
            obtain ⟨c0, c1⟩ := hc (k - 1) (by omega)
            rw [Nat.zero_add] at c0 c1
            have i5 := IntWalk.i64_in ((k : Int) - 1) (by omega)
            have hbd := V6.out.bd (k - 1) (by omega)
            obtain ⟨p, ep⟩ : ∃ a, X ys (k - 1) = a := ⟨_, rfl⟩
            obtain ⟨q, eq⟩ : ∃ a, Y ys (k - 1) = a := ⟨_, rfl⟩
            rw [ep] at c0 hbd
            rw [eq] at c1 hbd
            obtain ⟨⟨d1, d2⟩, d3, d4⟩ := hbd
            have i2 : (0 : Int) ≤ (k : Int) - 1 := by omega
            have i3 : (k : Int) - 1 < (k : Int) := by omega
            have i4 : ((k : Int) - 1).toNat = k - 1 := by omega
            have HO := Lib.hid (V6.out.own.alloc (.cells #[.int .i64 p, .int .i64 q] 29))
            have n0 := (Blk.new w6 29 #[.int .i64 p, .int .i64 q]).c2
            have hsz := V6.out.only.size
            obtain ⟨n0, n1⟩ := n0
            have EP := Lib.hid ep
            have EQ := Lib.hid eq
            clear hc ep eq
            go_wp2_with (at_builtin; refine app_spot rfl _ _ rfl w.heap.size _ k _ rfl HO.out w6.heap.size p q rfl n0 n1 (by omega) (by simp; omega) ?_; intro v' w10 ho hg)
            have Y10 := Lib.hid (V6.out.app (M := N + 300) (m' := 4000) hlt (by omega) (by omega) (by omega) (by omega) (by rw [EP.out, EQ.out]; exact far_0 p q) _ ho hg)
            clear ho hg n0 n1 c0 c1
            go_wp2_with fail
            go_ret
            exact ⟨_, k + 1, _, rfl, Y10.out.own, by omega, by omega, ⟨Y10.out.bd, short_but Y10.out.sh⟩, Y10.out.cur, Y10.out.only⟩
          | false =>
            go_wp2_with fail
            go_ret
            exact ⟨_, k, _, rfl, V6.out.own, hk1, by omega, ⟨bnd_mono V6.out.bd (by omega), short_but V6.out.sh⟩, V6.out.cur.le (by omega), V6.out.only⟩
end Go.Proofs.Ytciolimmfldpbaa
