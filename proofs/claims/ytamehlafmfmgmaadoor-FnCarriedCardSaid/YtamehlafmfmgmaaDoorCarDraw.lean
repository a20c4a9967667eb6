/- Drawn carries. Condition: the source's bytes can be read. -/
import Derived.Test.YtamehlafmfmgmaaDoorCurAny
import Derived.Test.YtamehlafmfmgmaaDoorSort
import Derived.Test.YtamehlafmfmgmaaDoorCutFn2
import Derived.Test.YtamehlafmfmgmaaDoorTake
import Derived.Test.YtamehlafmfmgmaaDoorSet
import Derived.Deep.DeepCutAuto
namespace Go.Proofs.YtamehlafmfmgmaaDoor
open Go.RowKit

theorem own_ask' {W W' : World} {base g sz n : Nat} {e : TypeId} {v : Value} {vs : List Value} (h : W.ownsRow base e sz v n vs) (hlt : g < base) (hg : W.grownBy W' (some g)) : W'.ownsRow base e sz v n vs :=
  h.kept hg (.inr fun e => by have := (h.lt g e).1; omega)
/-- The list u of k carries xs is owned, from the world a on, and the source is block g. -/
structure Lca (a : World) (B g N : Nat) (W : World) (u : Value) (k : Nat) (xs : List Int) : Prop where
  own : W.ownsRow a.heap.size 50 4 u k (ints xs)
  cur : Cur W B g N
  only : a.grownBy W (some g)
section
variable {a W W' : World} {B g N M k : Nat} {u u' : Value} {xs ys : List Int}
theorem Lca.start (h : Cur a B g N) : Lca a B g N a (.slice none 0 0) 0 [] := ⟨World.ownsRow_nil _ _ _ _, h, World.grownBy.refl _ _⟩
theorem Lca.ask (h : Lca a B g N W u k xs) (hlt : g < a.heap.size) (hc : Cur W' B g M) (hg : W.grownBy W' (some g)) : Lca a B g M W' u k xs := ⟨own_ask' h.own hlt hg, hc, grow_trans h.only hg⟩
theorem Lca.alloc (h : Lca a B g N W u k xs) (o : Obj) : Lca a B g N (W.alloc o) u k xs := ⟨h.own.alloc o, h.cur.alloc o, only_alloc h.only o⟩
theorem Lca.drewN (h : Lca a B g N W u k xs) (n : Nat) : Lca a B g N (W.drewN n) u k xs := ⟨h.own, h.cur, only_drewN h.only n⟩
theorem Lca.len (h : Lca a B g N W u k xs) : xs.length = k * 4 := by have := h.own.1; rwa [ints_length] at this
theorem Lca.le (h : Lca a B g N W u k xs) (hN : N ≤ M) : Lca a B g M W u k xs := ⟨h.own, h.cur.le hN, h.only⟩
theorem Lca.form (h : Lca a B g N W u k xs) : ∃ A c, u = .slice A k c := by obtain ⟨_, A, c, e, _⟩ := Rd.of_own h.own; exact ⟨A, c, e⟩
theorem Lca.put (h : Lca a B g N W u k xs) {p : Addr} (hb : u.ownBlock ≠ some p.block) (hg : g < p.block) (hw : a.heap.size ≤ p.block) (v : Value) : Lca a B g N (W.setCell p v) u k xs :=
  ⟨h.own.kept (only_setCell (World.grownBy.refl W (some p.block)) rfl v) (.inr hb), h.cur.setCell hg v, only_set h.only hw v⟩
theorem Lca.below (h : Lca a B g N W u k xs) (hb : Below W.heap.size W W') : Lca a B g N W' u k xs :=
  ⟨own_below h.own hb (Nat.le_refl _), h.cur.grown (row := none) ⟨hb.os, hb.tape, hb.output, hb.size, fun i hi _ => hb.block i hi⟩ (fun k hk => by cases hk), grow_trans h.only ⟨hb.os, hb.tape, hb.output, hb.size, fun i hi _ => hb.block i hi⟩⟩
end
theorem part_own {w : World} {lo k c : Nat} {A : Option Addr} {e : TypeId} {xs : List Int} (h : w.ownsRow lo e 4 (.slice A k c) k (ints xs)) : Part w 4 (.slice A k c) k xs := by
  have hl : xs.length = k * 4 := by have := h.1; rwa [ints_length] at this
  rcases h.2 with ⟨hv, h0⟩ | ⟨g, cap, cur, hv, _⟩
  · simp only [Value.slice.injEq] at hv
    obtain ⟨rfl, rfl, rfl⟩ := hv
    exact ⟨hl, .inl ⟨rfl, rfl⟩⟩
  · simp only [Value.slice.injEq, true_and] at hv
    obtain ⟨rfl, rfl⟩ := hv
    exact ⟨hl, .inr ⟨_, _, rfl, fun j hj => by rw [addAt, Nat.zero_add, h.cellAt j hj, ints_get xs j (by omega)]⟩⟩
theorem Blk.set4 {w : World} {g : Nat} {t : TypeId} {a b c d : Value} (h : Blk w g t #[a, b, c, d]) (u v x y : Value) : Blk ((((w.setCell ⟨g, 0, none⟩ u).setCell ⟨g, 1, none⟩ v).setCell ⟨g, 2, none⟩ x).setCell ⟨g, 3, none⟩ y) g t #[u, v, x, y] := by
  have := (((h.set_ 0 u).set_ 1 v).set_ 2 x).set_ 3 y
  simpa using this
/-- Carries are handed out, valid ones. -/
def HandsCar (B g N : Nat) (w : World) (e : Ending) (w' : World) : Prop := ∃ (u : Value) (k : Nat) (xs : List Int), e = .returned u ∧ gcB k xs = true ∧ Lca w B g N w' u k xs
set_option maxRecDepth 100000 in
set_option maxHeartbeats 8000000 in
theorem carries_any (B g N : Nat) (w : World) (h : Cur w B g N) (hN : N ≤ 1000000) : Calls Tryd.prog 51 #[.pointer (some ⟨g, 0, none⟩)] w (HandsCar B g (N + 10000) w) := by
  have hlt := h.lt
  have C0 := Lib.hid h
  have G0 := Lib.hid (World.grownBy.refl w (some g))
  clear h
  go_enter Tryd.func51, Tryd.ntmps51
  go_wp2_with fail
  refine (pick_any B g (N + 0) 9 _ C0.out (by omega) (by omega)).mono ?_
  rintro e w1 ⟨x1, x10, x11, rfl, hc, hg⟩
  have C1 := Lib.hid hc
  have G1 := Lib.hid (grow_trans G0.out hg)
  clear hc hg
  simp [pickHi] at x11
  dsimp only
  go_step
  go_step
  go_step
  go_step
  go_step
  go_step
  go_step
  go_step
  refine wp_cut (fun a' wk => ∃ (nn : Int) (f : Nat → Value), (0 ≤ nn ∧ nn ≤ 40 ∧ Lca w B g (N + 4) wk (.slice none 0 0) 0 []) ∧ a' = ⟨#[.pointer (some ⟨g, 0, none⟩), f 1, .slice none 0 0, .slice none 0 0, .int .i64 nn, f 5, f 6, f 7, f 8, f 9, f 10, f 11, f 12, f 13, f 14, f 15, f 16, f 17, f 18, f 19, f 20, f 21, f 22, f 23, f 24, f 25, f 26, f 27, f 28, f 29, f 30, f 31, f 32, f 33, f 34, f 35, f 36, f 37, f 38, f 39, f 40, f 41, f 42, f 43, f 44, f 45, f 46, f 47, f 48, f 49, f 50, f 51, f 52, f 53, f 54, f 55, f 56, f 57, f 58, f 59, f 60, f 61, f 62, f 63, f 64, f 65, f 66, f 67, f 68, f 69, f 70, f 71, f 72, f 73, f 74, f 75, f 76, f 77, f 78, f 79, f 80, f 81, f 82, f 83, f 84, f 85, f 86, f 87, f 88, f 89, f 90, f 91, f 92, f 93, f 94, f 95, f 96, f 97, f 98, f 99, f 100, f 101, f 102, f 103, f 104], []⟩) ?resta ?firsta
  case firsta =>
    intro _ _ _ _
    go_wp2_with fail
    refine (one_any B g (N + 2) 20 _ C1.out (by omega) (by omega)).mono ?_
    rintro e w2 ⟨b2, rfl, hc, hg⟩
    have L0 := Lib.hid (show Lca w B g (N + 4) w2 (.slice none 0 0) 0 [] from ⟨World.ownsRow_nil _ _ _ _, hc, grow_trans G1.out hg⟩)
    clear hc hg C0 C1 G0 G1
    cases b2 with
    | true =>
      go_wp2_with fail
      refine Met.intro ?_
      go_step
      exact ⟨40, meet_at ⟨by omega, by omega, L0.out⟩ (by kernel_rfl)⟩
    | false =>
      go_wp2_with fail
      refine Met.intro ?_
      go_step
      exact ⟨x1, meet_at ⟨by omega, by omega, L0.out⟩ (by kernel_rfl)⟩
  case resta =>
    clear C0 C1 G0 G1
    rintro _ wc ⟨nn, f, ⟨nn0, nn1, hl⟩, rfl⟩
    have L0 := Lib.hid hl
    clear hl x10 x11
    go_wp2_with fail
    go_loopw [3, 5] (fun vu vt wr => ∃ (j k : Nat) (xs : List Int), vt = .int .i64 j ∧ j ≤ 200 ∧ gcB k xs = true ∧ Lca w B g (N + 4 + 40 * j) wr vu k xs) (fun _ vt _ => 200 - (intOf vt).toNat)
    case atStart => exact ⟨0, 0, [], rfl, by omega, by rfl, L0.out⟩
    case round =>
      clear L0
      obtain ⟨j, k, xs, rfl, hj, hgc, hl⟩ := hrel
      obtain ⟨A, c, rfl⟩ := hl.form
      obtain ⟨wo, rfl⟩ : ∃ wo : World, wo = wr := ⟨_, rfl⟩
      have h40 := (gc_yes hgc).len
      have L0 := Lib.hid hl
      have HG := Lib.hid hgc
      clear hl hgc
      by_cases hkn : (k : Int) < nn
      · have d1 : decide ((k : Int) < nn) = true := by simpa using hkn
        by_cases hj2 : j < 200
        · have d2 : decide ((j : Int) < 200) = true := by simp; omega
          obtain ⟨M, eM⟩ : ∃ M, N + 4 + 40 * j = M := ⟨_, rfl⟩
          have HM := Lib.hid eM
          have hM : M ≤ 2000000 := by omega
          rw [eM] at L0
          clear eM
          go_wp2_with fail
          refine (pick_any B g M 60 _ L0.out.cur (by omega) (by omega)).mono ?_
          rintro e w3 ⟨x2, x20, x21, rfl, hc, hg⟩
          simp [pickHi] at x21
          replace L0 := Lib.hid (L0.out.ask hlt hc hg)
          clear hc hg
          go_wp2_with fail
          refine (pick_any B g (M + 2) 4 _ L0.out.cur (by omega) (by omega)).mono ?_
          rintro e w4 ⟨x3, x30, x31, rfl, hc, hg⟩
          simp [pickHi] at x31
          replace L0 := Lib.hid (L0.out.ask hlt hc hg)
          clear hc hg
          go_wp2_with fail
          refine (pick_any B g (M + 4) 3 _ L0.out.cur (by omega) (by omega)).mono ?_
          rintro e w5 ⟨x4, x40, x41, rfl, hc, hg⟩
          simp [pickHi] at x41
          replace L0 := Lib.hid (L0.out.ask hlt hc hg)
          clear hc hg
          have A5 := Lib.hid (Blk.new w5 3 (ints [1, 4, 8, 16]).toArray)
          have hg5 := L0.out.cur.lt
          replace L0 := Lib.hid (L0.out.alloc (.cells (ints [1, 4, 8, 16]).toArray 3))
          go_wp2_with fail
          refine (among_blk B g (M + 6) w5.heap.size _ [1, 4, 8, 16] 1 16 _ L0.out.cur (by omega) hg5 A5.out (by simp) (by simp) (by simp)).mono ?_
          rintro e w6 ⟨y5, y50, y51, rfl, hc, hg⟩
          replace L0 := Lib.hid (L0.out.ask hlt hc hg)
          clear hc hg hg5 A5
          obtain ⟨gx, egx⟩ : ∃ gx, w6.heap.size = gx := ⟨_, rfl⟩
          have hgx := Lib.hid (show g < gx from egx ▸ L0.out.cur.lt)
          have hwx := Lib.hid (show w.heap.size ≤ gx from egx ▸ L0.out.only.size)
          have hne := Lib.hid (show (Value.slice A k c).ownBlock ≠ some gx from fun e => by have := (L0.out.own.lt gx e).2; omega)
          have KX := Lib.hid (show Blk (w6.alloc (.cells #[.int .i64 (1 + x3), .int .i64 (1 + x4), .int .i64 x2, .int .i64 (x2 + y5)] 50)) gx 50 #[.int .i64 (1 + x3), .int .i64 (1 + x4), .int .i64 x2, .int .i64 (x2 + y5)] from egx ▸ Blk.new w6 _ _)
          have LX := Lib.hid (L0.out.alloc (.cells #[.int .i64 (1 + x3), .int .i64 (1 + x4), .int .i64 x2, .int .i64 (x2 + y5)] 50))
          clear L0
          dsimp only
          go_step
          go_step
          go_step
          go_step
          go_step
          go_step
          go_step
          go_step
          go_step
          go_step
          go_step
          go_step
          go_step
          go_step
          go_step
          go_step
          go_step
          clear egx
          refine wp_cut (fun a' wk => ∃ (p q r s : Int) (h : Nat → Value), (Lca w B g (M + 20) wk (.slice A k c) k xs ∧ Blk wk gx 50 #[.int .i64 p, .int .i64 q, .int .i64 r, .int .i64 s]) ∧ a' = ⟨#[.pointer (some ⟨g, 0, none⟩), f 1, .slice none 0 0, .slice A k c, .int .i64 nn, .int .i64 (j : Nat), h 6, .pointer (some ⟨gx, 0, none⟩), h 8, h 9, h 10, f 11, f 12, f 13, f 14, h 15, h 16, h 17, h 18, h 19, h 20, h 21, h 22, h 23, h 24, h 25, h 26, h 27, h 28, h 29, h 30, h 31, h 32, h 33, h 34, h 35, h 36, h 37, h 38, h 39, h 40, h 41, h 42, h 43, h 44, h 45, h 46, h 47, h 48, h 49, h 50, h 51, h 52, h 53, h 54, h 55, h 56, h 57, h 58, h 59, h 60, h 61, h 62, h 63, h 64, h 65, h 66, h 67, h 68, h 69, h 70, h 71, h 72, h 73, h 74, h 75, h 76, h 77, h 78, h 79, h 80, h 81, h 82, h 83, h 84, h 85, h 86, h 87, h 88, h 89, h 90, h 91, h 92, h 93, h 94, h 95, h 96, h 97, h 98, h 99, h 100, h 101, h 102, h 103, f 104], []⟩) ?restb ?firstb
          case firstb =>
            intro _ _ _ _
            by_cases hk0 : 0 < k
            · have d3 : decide ((0 : Int) < (k : Int)) = true := by simp; omega
              go_wp2_with fail
              refine (one_any B g (M + 8) 2 _ LX.out.cur (by omega) (by omega)).mono ?_
              rintro e w7 ⟨b7, rfl, hc, hg⟩
              replace LX := Lib.hid (LX.out.ask hlt hc hg)
              replace KX := Lib.hid (KX.out.grown' hg (by have := hgx.out; omega))
              clear hc hg
              cases b7 with
              | false =>
                go_wp2_with fail
                refine Met.intro ?_
                go_step
                exact ⟨_, _, _, _, meet_at ⟨LX.out.le (by omega), KX.out⟩ (by kernel_rfl)⟩
              | true =>
                have kle : (k : Int) ≤ 1000 := by omega
                go_wp2_with fail
                refine (pick_any B g (M + 10) (k : Int) _ LX.out.cur (by omega) (by omega)).mono ?_
                rintro e w8 ⟨zq, zq0, zq1, rfl, hc, hg⟩
                obtain ⟨z, rfl⟩ := Int.eq_ofNat_of_zero_le zq0
                have hzk : z < k := by unfold pickHi at zq1; split at zq1 <;> omega
                replace LX := Lib.hid (LX.out.ask hlt hc hg)
                replace KX := Lib.hid (KX.out.grown' hg (by have := hgx.out; omega))
                clear hc hg zq1
                obtain ⟨bl, rfl, hbl⟩ := own_at LX.out.own hk0
                have hxl := LX.out.len
                have cc := fun q (hq : q < k * 4) => (LX.out.own.cellAt q hq).trans (ints_get xs q (by omega))
                have hval := caB_yes ((gc_yes HG.out).each z hzk)
                have m0 := cc (z * 4) (by omega)
                have m1 := cc (z * 4 + 1) (by omega)
                have m2 := cc (z * 4 + 2) (by omega)
                have m3 := cc (z * 4 + 3) (by omega)
                obtain ⟨yp, eyp⟩ : ∃ a, xs.getD (z * 4) 0 = a := ⟨_, rfl⟩
                obtain ⟨yl, eyl⟩ : ∃ a, xs.getD (z * 4 + 1) 0 = a := ⟨_, rfl⟩
                obtain ⟨yf, eyf⟩ : ∃ a, xs.getD (z * 4 + 2) 0 = a := ⟨_, rfl⟩
                obtain ⟨yt, eyt⟩ : ∃ a, xs.getD (z * 4 + 3) 0 = a := ⟨_, rfl⟩
                rw [show cP xs z = yp from eyp, show cL xs z = yl from eyl, show cF xs z = yf from eyf, show cT xs z = yt from eyt] at hval
                rw [eyp] at m0
                rw [eyl] at m1
                rw [eyf] at m2
                rw [eyt] at m3
                obtain ⟨_, _, v1, v2, v3⟩ := hval
                have i0 : (0 : Int) ≤ (z : Int) := by omega
                have i1 : (z : Int) < (k : Int) := by omega
                obtain ⟨gy, egy⟩ : ∃ gy, w8.heap.size = gy := ⟨_, rfl⟩
                have hgy := Lib.hid (show g < gy from egy ▸ LX.out.cur.lt)
                have hxy := Lib.hid (show gx < gy from egy ▸ KX.out.lt)
                have KY := Lib.hid (show Blk (w8.alloc (.cells #[.int .i64 yp, .int .i64 yl, .int .i64 yf, .int .i64 yt] 50)) gy 50 #[.int .i64 yp, .int .i64 yl, .int .i64 yf, .int .i64 yt] from egy ▸ Blk.new w8 _ _)
                replace LX := Lib.hid (LX.out.alloc (.cells #[.int .i64 yp, .int .i64 yl, .int .i64 yf, .int .i64 yt] 50))
                replace KX := Lib.hid (KX.out.alloc (.cells #[.int .i64 yp, .int .i64 yl, .int .i64 yf, .int .i64 yt] 50))
                clear eyp eyl eyf eyt cc hxl
                obtain ⟨a0, a1, a2, a3⟩ := KX.out.c4
                obtain ⟨b0, b1, b2, b3⟩ := KY.out.c4
                have f2 := KX.out.frozen 2
                go_upto_region 13 with (fail)
                try rw [egy]
                clear egy
                clear m0 m1 m2 m3
                have hX := KX.out.set_ 2 (.int .i64 yt)
                simp at hX
                have LY := Lib.hid (LX.out.put (p := ⟨gx, 2, none⟩) hne.out hgx.out hwx.out (.int .i64 yt))
                replace KY := Lib.hid (KY.out.far (p := ⟨gx, 2, none⟩) (by have := hxy.out; simp; omega) (.int .i64 yt))
                generalize World.setCell _ ⟨gx, 2, none⟩ (Value.int .i64 yt) = w9 at hX LY KY ⊢
                replace KX := Lib.hid hX
                clear hX LX a0 a1 a2 a3 b0 b1 b2 b3 f2
                obtain ⟨a0, a1, a2, a3⟩ := KX.out.drew.c4
                have LZ := Lib.hid (LY.out.drewN 1)
                replace KX := Lib.hid KX.out.drew
                replace KY := Lib.hid KY.out.drew
                clear LY
                refine wp_region_held_drew (S := fun W => W.cell? ⟨gx, 2, none⟩ = some (.int .i64 yt)) (by kernel_rfl) a2 (fun hHeld => ?_)
                clear a0 a1 a2 a3
                refine take_at (i := 0) (oi := _) 57 (v := .pointer (some ⟨gx, 2, none⟩)) rfl rfl (by kernel_rfl) (by kernel_rfl) (by kernel_rfl) (fun _ _ _ h => h) (Or.inl ⟨by rfl, ?_⟩) hHeld ?_
                · (intro w hSw; (try dsimp only at hSw); go_split_ands; go_simp)
                simp only [List.setIfInBounds_toArray, List.set_cons_zero, List.set_cons_succ]
                refine take_at (i := 1) (oi := _) 58 (v := .int .i64 yt) rfl rfl (by kernel_rfl) (by kernel_rfl) (by kernel_rfl) (fun _ _ _ h => h) (Or.inl ⟨by rfl, ?_⟩) hHeld ?_
                · (intro w hSw; (try dsimp only at hSw); go_split_ands; go_simp)
                simp only [List.setIfInBounds_toArray, List.set_cons_zero, List.set_cons_succ]
                refine take_at (i := 2) (oi := _) 59 (v := .pointer (some ⟨g, 0, none⟩)) rfl rfl (by kernel_rfl) (by kernel_rfl) (by kernel_rfl) (fun _ _ _ h => h) (Or.inl ⟨by rfl, ?_⟩) hHeld ?_
                · (intro w hSw; (try dsimp only at hSw); go_split_ands; go_simp)
                simp only [List.setIfInBounds_toArray, List.set_cons_zero, List.set_cons_succ]
                refine wpAnyH_ready (rs := [3]) (by kernel_rfl) (by simp) ?_
                refine AllReadyH.cons (o := _) rfl (fun K9 hK => ?_) AllReadyH.nil
                go_simp
                have A9 := Lib.hid (Blk.new w9.drew 3 (ints [1, 4, 8]).toArray)
                have hg9 := LZ.out.cur.lt
                replace LZ := Lib.hid (LZ.out.alloc (.cells (ints [1, 4, 8]).toArray 3))
                replace KX := Lib.hid (KX.out.alloc (.cells (ints [1, 4, 8]).toArray 3))
                replace KY := Lib.hid (KY.out.alloc (.cells (ints [1, 4, 8]).toArray 3))
                refine hK.out _ _ KX.out.c4.2.2.1 (fun hHeld => ?_)
                clear hK K9
                refine wpAnyH_ready (rs := [4]) (by kernel_rfl) (by simp) ?_
                refine AllReadyH.cons (o := _) rfl (fun K9 hK => ?_) AllReadyH.nil
                go_simp
                refine (among_blk B g (M + 12) w9.drew.heap.size _ [1, 4, 8] 1 8 _ LZ.out.cur (by omega) hg9 A9.out (by simp) (by simp) (by simp)).mono ?_
                rintro e w10 ⟨ym, ym0, ym1, rfl, hc, hg⟩
                replace LZ := Lib.hid (LZ.out.ask hlt hc hg)
                replace KX := Lib.hid (KX.out.grown' hg (by have := hgx.out; omega))
                replace KY := Lib.hid (KY.out.grown' hg (by have := hgy.out; omega))
                refine hK.out _ _ KX.out.c4.2.2.1 (fun hHeld => ?_)
                clear hK K9 hc hg hg9 A9
                have x5 := IntWalk.i64_in (yt + ym) (by omega)
                refine take_at (i := 5) (oi := _) 62 (v := .int .i64 (yt + ym)) rfl rfl (by kernel_rfl) (by kernel_rfl) (by kernel_rfl) (fun _ _ _ h => h) (Or.inl ⟨by rfl, ?_⟩) hHeld ?_
                · (intro w hSw; (try dsimp only at hSw); go_split_ands; go_simp)
                simp only [List.setIfInBounds_toArray, List.set_cons_zero, List.set_cons_succ]
                refine take_at (i := 6) (oi := _) 63 (v := .pointer (some ⟨gx, 3, none⟩)) rfl rfl (by kernel_rfl) (by kernel_rfl) (by kernel_rfl) (fun _ _ _ h => h) (Or.inl ⟨by rfl, ?_⟩) hHeld ?_
                · (intro w hSw; (try dsimp only at hSw); go_split_ands; go_simp)
                simp only [List.setIfInBounds_toArray, List.set_cons_zero, List.set_cons_succ]
                clear x5
                obtain ⟨a0, a1, a2, a3⟩ := KX.out.c4
                have f3 := KX.out.frozen 3
                refine wpAnyH_ready (rs := [7]) (by kernel_rfl) (by simp) ?_
                refine AllReadyH.cons (o := _) rfl (fun K9 hK => ?_) AllReadyH.nil
                go_simp
                have hX := KX.out.set_ 3 (.int .i64 (yt + ym))
                simp at hX
                have LY := Lib.hid (LZ.out.put (p := ⟨gx, 3, none⟩) hne.out hgx.out hwx.out (.int .i64 (yt + ym)))
                replace KY := Lib.hid (KY.out.far (p := ⟨gx, 3, none⟩) (by have := hxy.out; simp; omega) (.int .i64 (yt + ym)))
                generalize World.setCell _ ⟨gx, 3, none⟩ (Value.int .i64 (yt + ym)) = w11 at hX LY KY ⊢
                replace KX := Lib.hid hX
                clear hX LZ a0 a1 a2 a3 f3
                refine hK.out _ _ KX.out.c4.2.2.1 (fun hHeld => ?_)
                clear hK K9
                refine wpAnyH_done (by kernel_rfl) ?_ _
                clear hHeld
                go_wp2_with fail
                refine (one_any B g (M + 14) 2 _ LY.out.cur (by omega) (by omega)).mono ?_
                rintro e w12 ⟨b12, rfl, hc, hg⟩
                replace LY := Lib.hid (LY.out.ask hlt hc hg)
                replace KX := Lib.hid (KX.out.grown' hg (by have := hgx.out; omega))
                replace KY := Lib.hid (KY.out.grown' hg (by have := hgy.out; omega))
                clear hc hg
                obtain ⟨a0, a1, a2, a3⟩ := KX.out.c4
                obtain ⟨b0, b1, b2, b3⟩ := KY.out.c4
                cases b12 with
                | true =>
                  have f1 := KX.out.frozen 1
                  have hX := KX.out.set_ 1 (.int .i64 yl)
                  simp at hX
                  have LW := Lib.hid (LY.out.put (p := ⟨gx, 1, none⟩) hne.out hgx.out hwx.out (.int .i64 yl))
                  have HX := Lib.hid hX
                  clear hX
                  go_wp2_with fail
                  refine Met.intro ?_
                  go_step
                  exact ⟨_, _, _, _, meet_at ⟨LW.out.le (by omega), HX.out⟩ (by kernel_rfl)⟩
                | false =>
                  have f1 := KX.out.frozen 0
                  have hX := KX.out.set_ 0 (.int .i64 yp)
                  simp at hX
                  have LW := Lib.hid (LY.out.put (p := ⟨gx, 0, none⟩) hne.out hgx.out hwx.out (.int .i64 yp))
                  have HX := Lib.hid hX
                  clear hX
                  go_wp2_with fail
                  refine Met.intro ?_
                  go_step
                  exact ⟨_, _, _, _, meet_at ⟨LW.out.le (by omega), HX.out⟩ (by kernel_rfl)⟩
            · have hk0 : k = 0 := by omega
              subst hk0
              have d3 : decide ((0 : Int) < ((0 : Nat) : Int)) = false := by simp
              go_wp2_with fail
              refine Met.intro ?_
              go_step
              exact ⟨_, _, _, _, meet_at ⟨LX.out.le (by omega), KX.out⟩ (by kernel_rfl)⟩
          case restb =>
            clear LX KX
            rintro _ wd ⟨p, q, r, s, h, ⟨hl, hkx⟩, rfl⟩
            have LX := Lib.hid hl
            have KX := Lib.hid hkx
            clear hl hkx
            go_step
            go_step
            refine wp_cut (fun a' wk => ∃ (p q r s : Int) (h : Nat → Value), (Lca w B g (M + 20) wk (.slice A k c) k xs ∧ Blk wk gx 50 #[.int .i64 p, .int .i64 q, .int .i64 r, .int .i64 s]) ∧ a' = ⟨#[.pointer (some ⟨g, 0, none⟩), f 1, .slice none 0 0, .slice A k c, .int .i64 nn, .int .i64 (j : Nat), h 6, .pointer (some ⟨gx, 0, none⟩), h 8, h 9, h 10, f 11, f 12, f 13, f 14, h 15, h 16, h 17, h 18, h 19, h 20, h 21, h 22, h 23, h 24, h 25, h 26, h 27, h 28, h 29, h 30, h 31, h 32, h 33, h 34, h 35, h 36, h 37, h 38, h 39, h 40, h 41, h 42, h 43, h 44, h 45, h 46, h 47, h 48, h 49, h 50, h 51, h 52, h 53, h 54, h 55, h 56, h 57, h 58, h 59, h 60, h 61, h 62, h 63, h 64, h 65, h 66, h 67, h 68, h 69, h 70, h 71, h 72, h 73, h 74, h 75, h 76, h 77, h 78, h 79, h 80, h 81, h 82, h 83, h 84, h 85, h 86, h 87, h 88, h 89, h 90, h 91, h 92, h 93, h 94, h 95, h 96, h 97, h 98, h 99, h 100, h 101, h 102, h 103, f 104], []⟩) ?restc ?firstc
            case firstc =>
              intro _ _ _ _
              by_cases h40n : nn = 40
              · subst h40n
                have d4 : ((40 : Int) == 40) = true := rfl
                obtain ⟨a0, a1, a2, a3⟩ := KX.out.c4
                have f0 := KX.out.frozen 0
                have f1 := KX.out.frozen 1
                have f2 := KX.out.frozen 2
                have f3 := KX.out.frozen 3
                go_wp2_with fail
                refine Met.intro ?_
                go_step
                exact ⟨_, _, _, _, meet_at ⟨(((LX.out.put (p := ⟨gx, 0, none⟩) hne.out hgx.out hwx.out _).put (p := ⟨gx, 1, none⟩) hne.out hgx.out hwx.out _).put (p := ⟨gx, 2, none⟩) hne.out hgx.out hwx.out _).put (p := ⟨gx, 3, none⟩) hne.out hgx.out hwx.out _, KX.out.set4 _ _ _ _⟩ (by kernel_rfl)⟩
              · have d4 : (nn == 40) = false := by simpa using h40n
                go_wp2_with fail
                refine Met.intro ?_
                go_step
                exact ⟨_, _, _, _, meet_at ⟨LX.out, KX.out⟩ (by kernel_rfl)⟩
            case restc =>
              clear LX KX
              rintro _ Wx ⟨p, q, r, s, h, ⟨hl, hkx⟩, rfl⟩
              have LX := Lib.hid hl
              have KX := Lib.hid hkx
              clear hl hkx
              have FX := Lib.hid (fun W (hW : Below Wx.heap.size Wx W) => (KX.out.on hW).c4)
              have PX := Lib.hid (fun W (hW : Below Wx.heap.size Wx W) => part_own (own_below LX.out.own hW (Nat.le_refl _)))
              have hxl := Lib.hid LX.out.len
              have HS0 := Lib.hid LX.out.only.size
              go_step
              go_upto_region 19 with (fail)
              refine wp_cut (fun a' wk => ∃ (ok : Bool) (un : Value) (h : Nat → Value), ((ok = true → ∃ ys, gcB (k + 1) ys = true ∧ Lca w B g (M + 20) wk un (k + 1) ys) ∧ Lca w B g (M + 20) wk (.slice A k c) k xs) ∧ a' = ⟨#[.pointer (some ⟨g, 0, none⟩), f 1, .slice none 0 0, .slice A k c, .int .i64 nn, .int .i64 (j : Nat), h 6, h 7, h 8, un, .bool ok, f 11, f 12, f 13, f 14, h 15, h 16, h 17, h 18, h 19, h 20, h 21, h 22, h 23, h 24, h 25, h 26, h 27, h 28, h 29, h 30, h 31, h 32, h 33, h 34, h 35, h 36, h 37, h 38, h 39, h 40, h 41, h 42, h 43, h 44, h 45, h 46, h 47, h 48, h 49, h 50, h 51, h 52, h 53, h 54, h 55, h 56, h 57, h 58, h 59, h 60, h 61, h 62, h 63, h 64, h 65, h 66, h 67, h 68, h 69, h 70, h 71, h 72, h 73, h 74, h 75, h 76, h 77, h 78, h 79, h 80, h 81, h 82, h 83, h 84, h 85, h 86, h 87, h 88, h 89, h 90, h 91, h 92, h 93, h 94, h 95, h 96, h 97, h 98, h 99, h 100, h 101, h 102, h 103, f 104], []⟩) ?restd ?firstd
              case restd =>
                rintro _ we ⟨ok, un, h2, ⟨hok, hl⟩, rfl⟩
                have HOK := Lib.hid hok
                have LE := Lib.hid hl
                clear hok hl
                cases ok with
                | true =>
                  obtain ⟨ys, hg2, hl2⟩ := HOK.out rfl
                  have HG2 := Lib.hid hg2
                  have L2 := Lib.hid (hl2.le (show M + 20 ≤ N + 4 + 40 * (j + 1) by have := HM.out; omega))
                  clear hg2 hl2
                  go_wp2_with fail
                  go_roundw
                  case rel => exact ⟨j + 1, k + 1, ys, by go_num, by omega, HG2.out, L2.out⟩
                  case measure => simp [intOf]; omega
                | false =>
                  have L2 := Lib.hid (LE.out.le (show M + 20 ≤ N + 4 + 40 * (j + 1) by have := HM.out; omega))
                  go_wp2_with fail
                  go_roundw
                  case rel => exact ⟨j + 1, k, xs, by go_num, by omega, HG.out, L2.out⟩
                  case measure => simp [intOf]; omega
              case firstd =>
                intro _ _ _ _
                refine wp_region_held_drew (S := fun W => W.cell? ⟨gx, 0, none⟩ = some (.int .i64 p) ∧ W.cell? ⟨gx, 1, none⟩ = some (.int .i64 q) ∧ W.cell? ⟨gx, 2, none⟩ = some (.int .i64 r) ∧ W.cell? ⟨gx, 3, none⟩ = some (.int .i64 s)) (by kernel_rfl) (FX.out _ (Below.refl _ _).drew) (fun hHeld => ?_)
                have HBx := Lib.hid ((Below.refl Wx.heap.size Wx).drew)
                refine take_at (i := 1) (oi := _) 94 (v := .slice A k c) rfl rfl (by kernel_rfl) (by kernel_rfl) (by kernel_rfl) (fun _ _ _ h => h) (Or.inl ⟨by rfl, ?_⟩) hHeld ?_
                · (intro w hSw; (try dsimp only at hSw); go_split_ands; go_simp)
                simp only [List.setIfInBounds_toArray, List.set_cons_zero, List.set_cons_succ]
                refine take_at (i := 3) (oi := _) 96 (v := (Value.agg #[Value.int .i64 p, Value.int .i64 q, Value.int .i64 r, Value.int .i64 s])) rfl rfl (by kernel_rfl) (by kernel_rfl) (by kernel_rfl) (fun _ _ _ h => h) (Or.inl ⟨by rfl, ?_⟩) hHeld ?_
                · (intro w hSw; (try dsimp only at hSw); go_split_ands; go_simp)
                simp only [List.setIfInBounds_toArray, List.set_cons_zero, List.set_cons_succ]
                refine wpAnyH_ready (rs := [0, 4]) (by kernel_rfl) (by simp) ?_
                refine AllReadyH.cons (o := _) rfl (fun K9 hK => ?_) (AllReadyH.cons (o := _) rfl (fun K9 hK => ?_) AllReadyH.nil)
                · go_simp
                  have H0 := Lib.hid (show World.ownsRow _ Wx.heap.size 50 4 _ 0 (ints []) from own_base (own_empty (Wx.drew) 50 4) (base' := Wx.heap.size) HBx.out.size)
                  replace HBx := Lib.hid (below_new HBx.out (.cells #[] 50))
                  refine hK.out _ _ (FX.out _ HBx.out) (fun hHeld => ?_)
                  clear hK K9
                  refine wpAnyH_ready (rs := [2, 4]) (by kernel_rfl) (by simp) ?_
                  refine AllReadyH.cons (o := _) rfl (fun K9 hK => ?_) (AllReadyH.cons (o := _) rfl (fun K9 hK => ?_) AllReadyH.nil)
                  · refine step_part rfl _ _ rfl Wx.heap.size _ _ _ rfl H0.out _ _ _ rfl (PX.out _ HBx.out) (by omega) HBx.out.size ?_
                    intro v9 w9 ho9 hg9
                    have hb9 := (Own.of H0.out).frame HBx.out (Nat.le_refl _) HBx.out.size hg9
                    replace HBx := Lib.hid hb9
                    have H1 := Lib.hid (own_cast ho9 (Nat.zero_add k) (List.nil_append xs).symm)
                    clear ho9 hg9 hb9
                    go_simp
                    refine hK.out _ _ (FX.out _ HBx.out) (fun hHeld => ?_)
                    clear hK K9
                    refine wpAnyH_ready (rs := [4]) (by kernel_rfl) (by simp) ?_
                    refine AllReadyH.cons (o := _) rfl (fun K9 hK => ?_) AllReadyH.nil
                    go_simp
                    replace H1 := Lib.hid (own_below H1.out (below_new (Below.refl _ _) (.cells #[.int .i64 p, .int .i64 q, .int .i64 r, .int .i64 s] 50)) (Nat.le_refl _))
                    have K6 := Lib.hid (Blk.new (w9) 50 #[.int .i64 p, .int .i64 q, .int .i64 r, .int .i64 s])
                    replace HBx := Lib.hid (below_new HBx.out (.cells #[.int .i64 p, .int .i64 q, .int .i64 r, .int .i64 s] 50))
                    refine hK.out _ _ (FX.out _ HBx.out) (fun hHeld => ?_)
                    clear hK K9
                    refine wpAnyH_ready (rs := [5]) (by kernel_rfl) (by simp) ?_
                    refine AllReadyH.cons (o := _) rfl (fun K9 hK => ?_) AllReadyH.nil
                    refine step_part rfl _ _ rfl Wx.heap.size _ k xs rfl H1.out _ 1 [p, q, r, s] rfl (part_one K6.out) (by omega) HBx.out.size ?_
                    intro v9 w9 ho9 hg9
                    have hb9 := (Own.of H1.out).frame HBx.out (Nat.le_refl _) HBx.out.size hg9
                    replace HBx := Lib.hid hb9
                    have H2 := Lib.hid ho9
                    clear ho9 hg9 hb9
                    go_simp
                    refine hK.out _ _ (FX.out _ HBx.out) (fun hHeld => ?_)
                    clear hK K9
                    refine wpAnyH_ready (rs := [6]) (by kernel_rfl) (by simp) ?_
                    refine AllReadyH.cons (o := _) rfl (fun K9 hK => ?_) AllReadyH.nil
                    go_simp
                    refine (caSort_any _ (k + 1) _ (xs ++ [p, q, r, s]) _ (Rd.of_own H2.out) (Nat.le_refl _) (by omega)).mono ?_
                    rintro e w10 ⟨u5, rfl, ho5, hb5⟩
                    have HOK := Lib.hid (show csB (k + 1) (xs ++ [p, q, r, s]) = true → csN (k + 1) (xs ++ [p, q, r, s]) = k + 1 ∧ gcB (k + 1) (csL (k + 1) (xs ++ [p, q, r, s])) = true from fun hh => by
                      have h3 := cs_yes hh
                      exact ⟨h3.2.2, by rw [h3.2.1]; exact hh⟩)
                    have HO5 := Lib.hid (own_base ho5 (Nat.le_trans HS0.out HBx.out.size))
                    replace HBx := Lib.hid (below_on HBx.out hb5)
                    clear ho5 hb5
                    obtain ⟨ok, eok⟩ : ∃ b, csB (k + 1) (xs ++ [p, q, r, s]) = b := ⟨_, rfl⟩
                    rw [eok] at HOK
                    rw [eok]
                    refine hK.out _ _ (FX.out _ HBx.out) (fun hHeld => ?_)
                    clear hK K9
                    clear eok
                    refine take_at (i := 7) (oi := _) 92 (v := .tuple #[u5, .bool ok]) rfl rfl (by kernel_rfl) (by kernel_rfl) (by kernel_rfl) (fun _ _ _ h => h) (Or.inl ⟨by rfl, ?_⟩) hHeld ?_
                    · (intro w hSw; (try dsimp only at hSw); go_split_ands; go_simp)
                    simp only [List.setIfInBounds_toArray, List.set_cons_zero, List.set_cons_succ]
                    refine take_at (i := 8) (oi := _) 100 (v := u5) rfl rfl (by kernel_rfl) (by kernel_rfl) (by kernel_rfl) (fun _ _ _ h => h) (Or.inl ⟨by rfl, ?_⟩) hHeld ?_
                    · (intro w hSw; (try dsimp only at hSw); go_split_ands; go_simp)
                    simp only [List.setIfInBounds_toArray, List.set_cons_zero, List.set_cons_succ]
                    refine take_at (i := 9) (oi := _) 101 (v := .bool ok) rfl rfl (by kernel_rfl) (by kernel_rfl) (by kernel_rfl) (fun _ _ _ h => h) (Or.inl ⟨by rfl, ?_⟩) hHeld ?_
                    · (intro w hSw; (try dsimp only at hSw); go_split_ands; go_simp)
                    simp only [List.setIfInBounds_toArray, List.set_cons_zero, List.set_cons_succ]
                    refine wpAnyH_ready (rs := [10]) (by kernel_rfl) (by simp) ?_
                    refine AllReadyH.cons (o := _) rfl (fun K9 hK => ?_) AllReadyH.nil
                    go_simp
                    refine hK.out _ _ (FX.out _ HBx.out) (fun hHeld => ?_)
                    clear hK K9
                    refine wpAnyH_ready (rs := [11]) (by kernel_rfl) (by simp) ?_
                    refine AllReadyH.cons (o := _) rfl (fun K9 hK => ?_) AllReadyH.nil
                    go_simp
                    refine hK.out _ _ (FX.out _ HBx.out) (fun hHeld => ?_)
                    clear hK K9
                    refine wpAnyH_done (by kernel_rfl) ?_ _
                    clear hHeld
                    have LE := Lib.hid (LX.out.below HBx.out)
                    go_wp2_with fail
                    refine Met.intro ?_
                    go_step
                    exact ⟨ok, u5, meet_at ⟨fun hh => ⟨_, (HOK.out hh).2, by have := HO5.out; rw [(HOK.out hh).1] at this; exact this, LE.out.cur, LE.out.only⟩, LE.out⟩ (by kernel_rfl)⟩
                  · go_simp
                    replace H0 := Lib.hid (own_below H0.out (below_new (Below.refl _ _) (.cells #[.int .i64 p, .int .i64 q, .int .i64 r, .int .i64 s] 50)) (Nat.le_refl _))
                    have K6 := Lib.hid (Blk.new (Wx.drew.alloc (.cells #[] 50)) 50 #[.int .i64 p, .int .i64 q, .int .i64 r, .int .i64 s])
                    replace HBx := Lib.hid (below_new HBx.out (.cells #[.int .i64 p, .int .i64 q, .int .i64 r, .int .i64 s] 50))
                    have hz : (Wx.drew.alloc (.cells #[] 50)).heap.size = Wx.heap.size + 1 := by simp
                    replace K6 := Lib.hid (hz ▸ K6.out)
                    clear hz
                    refine hK.out _ _ (FX.out _ HBx.out) (fun hHeld => ?_)
                    clear hK K9
                    refine wpAnyH_ready (rs := [2]) (by kernel_rfl) (by simp) ?_
                    refine AllReadyH.cons (o := _) rfl (fun K9 hK => ?_) AllReadyH.nil
                    refine step_part rfl _ _ rfl Wx.heap.size _ _ _ rfl H0.out _ _ _ rfl (PX.out _ HBx.out) (by omega) HBx.out.size ?_
                    intro v9 w9 ho9 hg9
                    have hb9 := (Own.of H0.out).frame HBx.out (Nat.le_refl _) HBx.out.size hg9
                    have hne2 : some (Wx.heap.size + 1) ≠ (Value.slice (some ⟨Wx.heap.size, 0, none⟩) 0 0).ownBlock := by simp [Value.ownBlock]
                    replace K6 := Lib.hid (K6.out.grown hg9 hne2)
                    replace HBx := Lib.hid hb9
                    have H1 := Lib.hid (own_cast ho9 (Nat.zero_add k) (List.nil_append xs).symm)
                    clear ho9 hg9 hb9
                    go_simp
                    refine hK.out _ _ (FX.out _ HBx.out) (fun hHeld => ?_)
                    clear hK K9
                    refine wpAnyH_ready (rs := [5]) (by kernel_rfl) (by simp) ?_
                    refine AllReadyH.cons (o := _) rfl (fun K9 hK => ?_) AllReadyH.nil
                    refine step_part rfl _ _ rfl Wx.heap.size _ k xs rfl H1.out _ 1 [p, q, r, s] rfl (part_one K6.out) (by omega) HBx.out.size ?_
                    intro v9 w9 ho9 hg9
                    have hb9 := (Own.of H1.out).frame HBx.out (Nat.le_refl _) HBx.out.size hg9
                    replace HBx := Lib.hid hb9
                    have H2 := Lib.hid ho9
                    clear ho9 hg9 hb9
                    go_simp
                    refine hK.out _ _ (FX.out _ HBx.out) (fun hHeld => ?_)
                    clear hK K9
                    refine wpAnyH_ready (rs := [6]) (by kernel_rfl) (by simp) ?_
                    refine AllReadyH.cons (o := _) rfl (fun K9 hK => ?_) AllReadyH.nil
                    go_simp
                    refine (caSort_any _ (k + 1) _ (xs ++ [p, q, r, s]) _ (Rd.of_own H2.out) (Nat.le_refl _) (by omega)).mono ?_
                    rintro e w10 ⟨u5, rfl, ho5, hb5⟩
                    have HOK := Lib.hid (show csB (k + 1) (xs ++ [p, q, r, s]) = true → csN (k + 1) (xs ++ [p, q, r, s]) = k + 1 ∧ gcB (k + 1) (csL (k + 1) (xs ++ [p, q, r, s])) = true from fun hh => by
                      have h3 := cs_yes hh
                      exact ⟨h3.2.2, by rw [h3.2.1]; exact hh⟩)
                    have HO5 := Lib.hid (own_base ho5 (Nat.le_trans HS0.out HBx.out.size))
                    replace HBx := Lib.hid (below_on HBx.out hb5)
                    clear ho5 hb5
                    obtain ⟨ok, eok⟩ : ∃ b, csB (k + 1) (xs ++ [p, q, r, s]) = b := ⟨_, rfl⟩
                    rw [eok] at HOK
                    rw [eok]
                    refine hK.out _ _ (FX.out _ HBx.out) (fun hHeld => ?_)
                    clear hK K9
                    clear eok
                    refine take_at (i := 7) (oi := _) 92 (v := .tuple #[u5, .bool ok]) rfl rfl (by kernel_rfl) (by kernel_rfl) (by kernel_rfl) (fun _ _ _ h => h) (Or.inl ⟨by rfl, ?_⟩) hHeld ?_
                    · (intro w hSw; (try dsimp only at hSw); go_split_ands; go_simp)
                    simp only [List.setIfInBounds_toArray, List.set_cons_zero, List.set_cons_succ]
                    refine take_at (i := 8) (oi := _) 100 (v := u5) rfl rfl (by kernel_rfl) (by kernel_rfl) (by kernel_rfl) (fun _ _ _ h => h) (Or.inl ⟨by rfl, ?_⟩) hHeld ?_
                    · (intro w hSw; (try dsimp only at hSw); go_split_ands; go_simp)
                    simp only [List.setIfInBounds_toArray, List.set_cons_zero, List.set_cons_succ]
                    refine take_at (i := 9) (oi := _) 101 (v := .bool ok) rfl rfl (by kernel_rfl) (by kernel_rfl) (by kernel_rfl) (fun _ _ _ h => h) (Or.inl ⟨by rfl, ?_⟩) hHeld ?_
                    · (intro w hSw; (try dsimp only at hSw); go_split_ands; go_simp)
                    simp only [List.setIfInBounds_toArray, List.set_cons_zero, List.set_cons_succ]
                    refine wpAnyH_ready (rs := [10]) (by kernel_rfl) (by simp) ?_
                    refine AllReadyH.cons (o := _) rfl (fun K9 hK => ?_) AllReadyH.nil
                    go_simp
                    refine hK.out _ _ (FX.out _ HBx.out) (fun hHeld => ?_)
                    clear hK K9
                    refine wpAnyH_ready (rs := [11]) (by kernel_rfl) (by simp) ?_
                    refine AllReadyH.cons (o := _) rfl (fun K9 hK => ?_) AllReadyH.nil
                    go_simp
                    refine hK.out _ _ (FX.out _ HBx.out) (fun hHeld => ?_)
                    clear hK K9
                    refine wpAnyH_done (by kernel_rfl) ?_ _
                    clear hHeld
                    have LE := Lib.hid (LX.out.below HBx.out)
                    go_wp2_with fail
                    refine Met.intro ?_
                    go_step
                    exact ⟨ok, u5, meet_at ⟨fun hh => ⟨_, (HOK.out hh).2, by have := HO5.out; rw [(HOK.out hh).1] at this; exact this, LE.out.cur, LE.out.only⟩, LE.out⟩ (by kernel_rfl)⟩
                · go_simp
                  have K6 := Lib.hid (Blk.new (Wx.drew) 50 #[.int .i64 p, .int .i64 q, .int .i64 r, .int .i64 s])
                  replace HBx := Lib.hid (below_new HBx.out (.cells #[.int .i64 p, .int .i64 q, .int .i64 r, .int .i64 s] 50))
                  refine hK.out _ _ (FX.out _ HBx.out) (fun hHeld => ?_)
                  clear hK K9
                  refine wpAnyH_ready (rs := [0]) (by kernel_rfl) (by simp) ?_
                  refine AllReadyH.cons (o := _) rfl (fun K9 hK => ?_) AllReadyH.nil
                  go_simp
                  have H0 := Lib.hid (show World.ownsRow _ Wx.heap.size 50 4 _ 0 (ints []) from own_base (own_empty (Wx.drew.alloc (.cells #[.int .i64 p, .int .i64 q, .int .i64 r, .int .i64 s] 50)) 50 4) (base' := Wx.heap.size) HBx.out.size)
                  replace HBx := Lib.hid (below_new HBx.out (.cells #[] 50))
                  replace K6 := Lib.hid (K6.out.alloc (.cells #[] 50))
                  have hz : (Wx.drew.alloc (.cells #[.int .i64 p, .int .i64 q, .int .i64 r, .int .i64 s] 50)).heap.size = Wx.heap.size + 1 := by simp
                  replace H0 := Lib.hid (show World.ownsRow _ Wx.heap.size 50 4 (.slice (some ⟨Wx.heap.size + 1, 0, none⟩) 0 0) 0 (ints []) from by have := H0.out; rw [hz] at this; exact this)
                  clear hz
                  refine hK.out _ _ (FX.out _ HBx.out) (fun hHeld => ?_)
                  clear hK K9
                  refine wpAnyH_ready (rs := [2]) (by kernel_rfl) (by simp) ?_
                  refine AllReadyH.cons (o := _) rfl (fun K9 hK => ?_) AllReadyH.nil
                  refine step_part rfl _ _ rfl Wx.heap.size _ _ _ rfl H0.out _ _ _ rfl (PX.out _ HBx.out) (by omega) HBx.out.size ?_
                  intro v9 w9 ho9 hg9
                  have hb9 := (Own.of H0.out).frame HBx.out (Nat.le_refl _) HBx.out.size hg9
                  have hne2 : some Wx.heap.size ≠ (Value.slice (some ⟨Wx.heap.size + 1, 0, none⟩) 0 0).ownBlock := by simp [Value.ownBlock]
                  replace K6 := Lib.hid (K6.out.grown hg9 hne2)
                  replace HBx := Lib.hid hb9
                  have H1 := Lib.hid (own_cast ho9 (Nat.zero_add k) (List.nil_append xs).symm)
                  clear ho9 hg9 hb9
                  go_simp
                  refine hK.out _ _ (FX.out _ HBx.out) (fun hHeld => ?_)
                  clear hK K9
                  refine wpAnyH_ready (rs := [5]) (by kernel_rfl) (by simp) ?_
                  refine AllReadyH.cons (o := _) rfl (fun K9 hK => ?_) AllReadyH.nil
                  refine step_part rfl _ _ rfl Wx.heap.size _ k xs rfl H1.out _ 1 [p, q, r, s] rfl (part_one K6.out) (by omega) HBx.out.size ?_
                  intro v9 w9 ho9 hg9
                  have hb9 := (Own.of H1.out).frame HBx.out (Nat.le_refl _) HBx.out.size hg9
                  replace HBx := Lib.hid hb9
                  have H2 := Lib.hid ho9
                  clear ho9 hg9 hb9
                  go_simp
                  refine hK.out _ _ (FX.out _ HBx.out) (fun hHeld => ?_)
                  clear hK K9
                  refine wpAnyH_ready (rs := [6]) (by kernel_rfl) (by simp) ?_
                  refine AllReadyH.cons (o := _) rfl (fun K9 hK => ?_) AllReadyH.nil
                  go_simp
                  refine (caSort_any _ (k + 1) _ (xs ++ [p, q, r, s]) _ (Rd.of_own H2.out) (Nat.le_refl _) (by omega)).mono ?_
                  rintro e w10 ⟨u5, rfl, ho5, hb5⟩
                  have HOK := Lib.hid (show csB (k + 1) (xs ++ [p, q, r, s]) = true → csN (k + 1) (xs ++ [p, q, r, s]) = k + 1 ∧ gcB (k + 1) (csL (k + 1) (xs ++ [p, q, r, s])) = true from fun hh => by
                    have h3 := cs_yes hh
                    exact ⟨h3.2.2, by rw [h3.2.1]; exact hh⟩)
                  have HO5 := Lib.hid (own_base ho5 (Nat.le_trans HS0.out HBx.out.size))
                  replace HBx := Lib.hid (below_on HBx.out hb5)
                  clear ho5 hb5
                  obtain ⟨ok, eok⟩ : ∃ b, csB (k + 1) (xs ++ [p, q, r, s]) = b := ⟨_, rfl⟩
                  rw [eok] at HOK
                  rw [eok]
                  refine hK.out _ _ (FX.out _ HBx.out) (fun hHeld => ?_)
                  clear hK K9
                  clear eok
                  refine take_at (i := 7) (oi := _) 92 (v := .tuple #[u5, .bool ok]) rfl rfl (by kernel_rfl) (by kernel_rfl) (by kernel_rfl) (fun _ _ _ h => h) (Or.inl ⟨by rfl, ?_⟩) hHeld ?_
                  · (intro w hSw; (try dsimp only at hSw); go_split_ands; go_simp)
                  simp only [List.setIfInBounds_toArray, List.set_cons_zero, List.set_cons_succ]
                  refine take_at (i := 8) (oi := _) 100 (v := u5) rfl rfl (by kernel_rfl) (by kernel_rfl) (by kernel_rfl) (fun _ _ _ h => h) (Or.inl ⟨by rfl, ?_⟩) hHeld ?_
                  · (intro w hSw; (try dsimp only at hSw); go_split_ands; go_simp)
                  simp only [List.setIfInBounds_toArray, List.set_cons_zero, List.set_cons_succ]
                  refine take_at (i := 9) (oi := _) 101 (v := .bool ok) rfl rfl (by kernel_rfl) (by kernel_rfl) (by kernel_rfl) (fun _ _ _ h => h) (Or.inl ⟨by rfl, ?_⟩) hHeld ?_
                  · (intro w hSw; (try dsimp only at hSw); go_split_ands; go_simp)
                  simp only [List.setIfInBounds_toArray, List.set_cons_zero, List.set_cons_succ]
                  refine wpAnyH_ready (rs := [10]) (by kernel_rfl) (by simp) ?_
                  refine AllReadyH.cons (o := _) rfl (fun K9 hK => ?_) AllReadyH.nil
                  go_simp
                  refine hK.out _ _ (FX.out _ HBx.out) (fun hHeld => ?_)
                  clear hK K9
                  refine wpAnyH_ready (rs := [11]) (by kernel_rfl) (by simp) ?_
                  refine AllReadyH.cons (o := _) rfl (fun K9 hK => ?_) AllReadyH.nil
                  go_simp
                  refine hK.out _ _ (FX.out _ HBx.out) (fun hHeld => ?_)
                  clear hK K9
                  refine wpAnyH_done (by kernel_rfl) ?_ _
                  clear hHeld
                  have LE := Lib.hid (LX.out.below HBx.out)
                  go_wp2_with fail
                  refine Met.intro ?_
                  go_step
                  exact ⟨ok, u5, meet_at ⟨fun hh => ⟨_, (HOK.out hh).2, by have := HO5.out; rw [(HOK.out hh).1] at this; exact this, LE.out.cur, LE.out.only⟩, LE.out⟩ (by kernel_rfl)⟩
        · have d2 : decide ((j : Int) < 200) = false := by simp; omega
          have L2 := Lib.hid (L0.out.le (show N + 4 + 40 * j ≤ N + 10000 by omega))
          go_wp2_with fail
          go_ret
          exact ⟨_, k, xs, rfl, HG.out, L2.out⟩
      · have d1 : decide ((k : Int) < nn) = false := by simpa using hkn
        have L2 := Lib.hid (L0.out.le (show N + 4 + 40 * j ≤ N + 10000 by omega))
        go_wp2_with fail
        go_ret
        exact ⟨_, k, xs, rfl, HG.out, L2.out⟩
end Go.Proofs.YtamehlafmfmgmaaDoor
