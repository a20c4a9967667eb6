/- A drawn chart. Condition: the source's bytes can be read. -/
import Derived.Test.YtnlneblipedddaaPFnTransitions20
import Derived.Test.YtnlneblipedddaaPFnTransitions09
import Derived.Test.YtnlneblipedddaaPFnTransitions11
import Derived.Test.YtnlneblipedddaaPFnTransitions01
import Derived.Test.YtnlneblipedddaaPFnTransitions12
import Derived.Deep.DeepCutAuto
namespace Go.Proofs.Ytnlneblipedddaa
open Go.RowKit

/-- How many of the first k spots lie so low that they may still be met. -/
def chN (xs : List Int) (j : Nat) : Nat → Nat
  | 0 => 0
  | k + 1 => chN xs j k + (if (j : Int) ≤ xs.getD (k * 2 + 1) 0 - 7 then 1 else 0)
theorem chN_le (xs : List Int) (j : Nat) : ∀ k, chN xs j k ≤ k
  | 0 => Nat.le_refl _
  | k + 1 => by have := chN_le xs j k; rw [chN]; split <;> omega
theorem chN_next (xs : List Int) (j : Nat) : ∀ k, chN xs (j + 1) k ≤ chN xs j k
  | 0 => Nat.le_refl _
  | k + 1 => by
    have := chN_next xs j k
    rw [chN, chN]
    split <;> split <;> omega
theorem chN_met {xs : List Int} {j : Nat} : ∀ k i, i < k → xs.getD (i * 2 + 1) 0 = 7 + (j : Int) → chN xs (j + 1) k + 1 ≤ chN xs j k
  | 0, _, h, _ => absurd h (by omega)
  | k + 1, i, h, hi => by
    have h1 := chN_next xs j k
    rw [chN, chN]
    rcases Nat.lt_or_ge i k with g | g
    · have := chN_met (xs := xs) (j := j) k i g hi
      split <;> split <;> omega
    · obtain rfl : i = k := by omega
      rw [hi]
      split <;> split <;> omega
theorem chN_old (xs : List Int) (a b : Int) (j : Nat) : ∀ k, k * 2 ≤ xs.length → chN (xs ++ [a, b]) j k = chN xs j k
  | 0, _ => rfl
  | k + 1, h => by
    rw [chN, chN, chN_old xs a b j k (by omega)]
    have e : (xs ++ [a, b]).getD (k * 2 + 1) 0 = xs.getD (k * 2 + 1) 0 := by
      simp only [List.getD]; rw [List.getElem?_append_left (by omega)]
    rw [e]
theorem chN_app (xs : List Int) (a b : Int) (j k : Nat) (h : xs.length = k * 2) : chN (xs ++ [a, b]) j (k + 1) = chN xs j k + (if (j : Int) ≤ b - 7 then 1 else 0) := by
  rw [chN, chN_old xs a b j k (by omega)]
  have e : (xs ++ [a, b]).getD (k * 2 + 1) 0 = b := by
    simp only [List.getD]; rw [List.getElem?_append_right (by omega), h]; simp
  rw [e]
theorem sz1 (W : World) (o : Obj) : (W.alloc o).heap.size = W.heap.size + 1 := by simp
theorem Lso.fresh {a W : World} {B g N k : Nat} {u : Value} {xs : List Int} (h : Lso a B g N W u k xs) (cs : Array Value) (t : TypeId) : Blk (W.alloc (.cells cs t)) W.heap.size t cs ∧ g < W.heap.size := ⟨Blk.new W t cs, h.cur.lt⟩
/-- A chart is handed out. -/
def HandsChart (B g N n : Nat) (w : World) (e : Ending) (w' : World) : Prop := ∃ (u : Value) (xs : List Int), e = .returned u ∧ Lso w B g N w' u n xs

set_option maxRecDepth 100000 in
set_option maxHeartbeats 8000000 in
theorem chartOf_any (B g N n : Nat) (hn : n ≤ 13) (w : World) (h : Cur w B g N) (hN : N ≤ 100000000) : Calls Try.prog 87 #[.pointer (some ⟨g, 0, none⟩), .int .i64 n] w (HandsChart B g (N + 10000) n w) := by
  have hlt := h.lt
  have L0 := Lib.hid (Lso.start h)
  clear h
  go_enter Try.func87, Try.ntmps87
  go_wp2_with fail
  go_loopw [5, 6] (fun u t wr => ∃ (k j : Nat) (xs : List Int), t = .int .i64 j ∧ k ≤ n ∧ j + chN xs j k ≤ 61 + 2 * k ∧ Lso w B g (N + 40 * j) wr u k xs) (fun _ t _ => 100 - (intOf t).toNat)
  case atStart => exact ⟨0, 0, [], rfl, by omega, by simp [chN], L0.out⟩
  case round =>
    clear L0
    obtain ⟨k, j, xs, rfl, hk, hj, hl⟩ := hrel
    have L := Lib.hid hl
    obtain ⟨A, c, rfl⟩ := hl.form
    clear hl
    by_cases hlt1 : k < n
    · have d1 : decide ((k : Int) < (n : Int)) = true := by simp; omega
      go_wp2_with fail
      refine (spot_any B g (N + 40 * j) _ L.out.cur (by omega)).mono ?_
      rintro e w1 ⟨x, y, hxy, rfl, hc, hg⟩
      replace L := Lib.hid (L.out.ask hlt hc hg)
      clear hc hg
      have hown := Lib.hid (show (Value.slice A k c).ownBlock ≠ some w1.heap.size from fun e => by have := (L.out.own.lt _ e).2; omega)
      have SX := Lib.hid (Blk.new w1 75 #[.int .i64 x, .int .i64 y])
      have hgx0 := L.out.cur.lt
      have hwx := Lib.hid (show w.heap.size ≤ w1.heap.size from L.out.only.size)
      have hgx := Lib.hid (show g < w1.heap.size from hgx0)
      have LW := Lib.hid L.out
      replace L := Lib.hid (L.out.alloc (.cells #[.int .i64 x, .int .i64 y] 75))
      by_cases hk0 : 0 < k
      · have d2 : decide ((0 : Int) < (k : Int)) = true := by simp; omega
        go_wp2_with fail
        refine (one_any B g (N + 40 * j + 12) 2 _ L.out.cur (by omega) (by omega)).mono ?_
        rintro e w2 ⟨b1, rfl, hc, hg⟩
        replace L := Lib.hid (L.out.ask hlt hc hg)
        replace SX := Lib.hid (SX.out.grown' hg (by omega))
        clear hc hg
        cases b1 with
        | true =>
          go_wp2_with fail
          refine (pick_any B g (N + 40 * j + 14) (k : Int) _ L.out.cur (by omega) (by omega)).mono ?_
          rintro e w3 ⟨zq, zq0, zq1, rfl, hc, hg⟩
          replace L := Lib.hid (L.out.ask hlt hc hg)
          replace SX := Lib.hid (SX.out.grown' hg (by have := hgx.out; omega))
          clear hc hg
          obtain ⟨z, rfl⟩ := Int.eq_ofNat_of_zero_le zq0
          have hzk : z < k := by unfold pickHi at zq1; split at zq1 <;> omega
          obtain ⟨bl, rfl, hbl⟩ := own_at L.out.own hk0
          have hxl := L.out.len
          have c0 := (L.out.own.cellAt (z * 2) (by omega)).trans (ints_get xs _ (by omega))
          have c1 := (L.out.own.cellAt (z * 2 + 1) (by omega)).trans (ints_get xs _ (by omega))
          obtain ⟨p, ep⟩ : ∃ q, xs.getD (z * 2) 0 = q := ⟨_, rfl⟩
          obtain ⟨q, eq⟩ : ∃ q, xs.getD (z * 2 + 1) 0 = q := ⟨_, rfl⟩
          rw [ep] at c0
          rw [eq] at c1
          have i0 : (0 : Int) ≤ (z : Int) := by omega
          have i1 : (z : Int) < (k : Int) := by omega
          clear ep eq hxl zq1
          have hbx := Lib.hid (show w3.heap.size ≠ w1.heap.size from by have := SX.out.lt; omega)
          have SB := Lib.hid (L.out.fresh #[.int .i64 p, .int .i64 q] 75)
          replace L := Lib.hid (L.out.alloc (.cells #[.int .i64 p, .int .i64 q] 75))
          replace SX := Lib.hid (SX.out.alloc (.cells #[.int .i64 p, .int .i64 q] 75))
          go_wp2_with fail
          refine wp_cut (fun a' wk => ∃ (x' y' : Int) (h : Nat → Value), (Lso w B g (N + 40 * j + 20) wk (.slice (some ⟨bl, 0, none⟩) k c) k xs ∧ Blk wk w1.heap.size 75 #[.int .i64 x', .int .i64 y']) ∧ a' = ⟨#[.pointer (some ⟨g, 0, none⟩), .int .i64 n, undef, undef, .slice none 0 0, .slice (some ⟨bl, 0, none⟩) k c, .int .i64 j, .pointer (some ⟨w1.heap.size, 0, none⟩), h 8, h 9, h 10, h 11, h 12, h 13, h 14, h 15, h 16, h 17, h 18, h 19, h 20, h 21, h 22, h 23, h 24, h 25, h 26, h 27, h 28, h 29, h 30, h 31, h 32, h 33, h 34, h 35, h 36, h 37, h 38, h 39, h 40, h 41, h 42, h 43, h 44, h 45, h 46, h 47, h 48, h 49, h 50, h 51, h 52, h 53, h 54, h 55, h 56, h 57, h 58, h 59, h 60, h 61, undef], []⟩) ?restb ?firstb
          case restb =>
            rintro _ wc ⟨x', y', h, ⟨hl, hs⟩, rfl⟩
            replace L := Lib.hid hl
            replace SX := Lib.hid hs
            clear hl hs c0 c1 SB
            by_cases hj60 : 60 < j
            · have d3 : decide ((60 : Int) < (j : Int)) = true := by simp; omega
              have hk13 : k < 13 := by omega
              have hj99 : j ≤ 99 := by omega
              obtain ⟨x0, x1⟩ := SX.out.c2
              have f0 := SX.out.frozen 0
              have f1 := SX.out.frozen 1
              have hw := hwx.out
              obtain ⟨X3, eX⟩ : ∃ q, 3 * (k : Int) = q := ⟨_, rfl⟩
              obtain ⟨Y7, eY⟩ : ∃ q, 7 + (j : Int) = q := ⟨_, rfl⟩
              have u1 := IntWalk.i64_in X3 (by omega)
              have u2 := IntWalk.i64_in Y7 (by omega)
              have u3 := IntWalk.i64_in (3 * (k : Int)) (by omega)
              have u4 := IntWalk.i64_in (7 + (j : Int)) (by omega)
              have EY := Lib.hid eY
              replace SX := Lib.hid (SX.out.set2 (.int .i64 X3) (.int .i64 Y7))
              replace L := Lib.hid ((L.out.put (p := ⟨w1.heap.size, 0, none⟩) hown.out hgx.out hwx.out (.int .i64 X3)).put (p := ⟨w1.heap.size, 1, none⟩) hown.out hgx.out hwx.out (.int .i64 Y7))
              go_wp2_with fail
              clear f0 f1 x0 x1
              obtain ⟨x0, x1⟩ := SX.out.c2
              refine (chFind_any _ k _ xs X3 Y7 _ (Rd.of_own L.out.own) (Nat.le_refl _) (by omega)).mono ?_
              rintro e w5 ⟨r, rfl, hr, hb⟩
              replace L := Lib.hid (L.out.below hb)
              replace SX := Lib.hid (SX.out.on hb)
              clear hb x0 x1
              obtain ⟨x0, x1⟩ := SX.out.c2
              by_cases hr0 : r < 0
              · have d4 : decide (r < 0) = true := by simpa using hr0
                clear hr
                have hsz := L.out.only.size
                have SY := Lib.hid (Blk.new w5 75 #[.int .i64 X3, .int .i64 Y7])
                have L2 := Lib.hid (L.out.alloc (.cells #[.int .i64 X3, .int .i64 Y7] 75))
                go_wp2_with (at_builtin; refine app_part rfl _ _ rfl w.heap.size _ k xs rfl L2.out.own _ 1 [X3, Y7] rfl (part_one SY.out) (by omega) (by simp; omega) ?_; intro v' w6 ho hg)
                have L3 := Lib.hid (show Lso w B g (N + 40 * j + 20) w6 v' (k + 1) (xs ++ [X3, Y7]) from ⟨ho, L2.out.cur.grown hg (fun i hi => by have := (L2.out.own.lt i hi).1; omega), only_grown L2.out.only hg (fun i hi => .inr (L2.out.own.lt i hi).1)⟩)
                have hxl := L.out.len
                have hap := chN_app xs X3 Y7 (j + 1) k hxl
                have hnx := chN_next xs j k
                have hle := chN_le xs (j + 1) k
                go_wp2_with fail
                go_roundw
                case rel => exact ⟨k + 1, j + 1, xs ++ [X3, Y7], by go_num, by omega, by rw [hap]; split <;> omega, L3.out.le (by omega)⟩
                case measure => simp [intOf]; omega
              · have d4 : decide (r < 0) = false := by simpa using hr0
                have hle := chN_le xs (j + 1) k
                have hnx := chN_next xs j k
                obtain ⟨i, hi, _, hiy⟩ := hr (by omega)
                have hmet := chN_met k i hi (hiy.trans EY.out.symm)
                go_wp2_with fail
                go_roundw
                case rel => exact ⟨k, j + 1, xs, by go_num, by omega, by omega, L.out.le (by omega)⟩
                case measure => simp [intOf]; omega
            · have d3 : decide ((60 : Int) < (j : Int)) = false := by simp; omega
              obtain ⟨x0, x1⟩ := SX.out.c2
              go_wp2_with fail
              refine (chFind_any _ k _ xs x' y' _ (Rd.of_own L.out.own) (Nat.le_refl _) (by omega)).mono ?_
              rintro e w5 ⟨r, rfl, hr, hb⟩
              replace L := Lib.hid (L.out.below hb)
              replace SX := Lib.hid (SX.out.on hb)
              clear hb x0 x1
              obtain ⟨x0, x1⟩ := SX.out.c2
              by_cases hr0 : r < 0
              · have d4 : decide (r < 0) = true := by simpa using hr0
                clear hr
                have hsz := L.out.only.size
                have SY := Lib.hid (Blk.new w5 75 #[.int .i64 x', .int .i64 y'])
                have L2 := Lib.hid (L.out.alloc (.cells #[.int .i64 x', .int .i64 y'] 75))
                go_wp2_with (at_builtin; refine app_part rfl _ _ rfl w.heap.size _ k xs rfl L2.out.own _ 1 [x', y'] rfl (part_one SY.out) (by omega) (by simp; omega) ?_; intro v' w6 ho hg)
                have L3 := Lib.hid (show Lso w B g (N + 40 * j + 20) w6 v' (k + 1) (xs ++ [x', y']) from ⟨ho, L2.out.cur.grown hg (fun i hi => by have := (L2.out.own.lt i hi).1; omega), only_grown L2.out.only hg (fun i hi => .inr (L2.out.own.lt i hi).1)⟩)
                have hxl := L.out.len
                have hap := chN_app xs x' y' (j + 1) k hxl
                have hnx := chN_next xs j k
                have hle := chN_le xs (j + 1) k
                go_wp2_with fail
                go_roundw
                case rel => exact ⟨k + 1, j + 1, xs ++ [x', y'], by go_num, by omega, by rw [hap]; split <;> omega, L3.out.le (by omega)⟩
                case measure => simp [intOf]; omega
              · have d4 : decide (r < 0) = false := by simpa using hr0
                have hle := chN_le xs (j + 1) k
                have hnx := chN_next xs j k
                go_wp2_with fail
                go_roundw
                case rel => exact ⟨k, j + 1, xs, by go_num, by omega, by omega, L.out.le (by omega)⟩
                case measure => simp [intOf]; omega
          case firstb =>
            intro _ _ _ _
            clear c0 c1
            obtain ⟨b0, b1⟩ := SB.out.1.c2
            refine wp_region_held_drew (S := fun W => W.cell? ⟨w3.heap.size, 0, none⟩ = some (.int .i64 p) ∧ W.cell? ⟨w3.heap.size, 1, none⟩ = some (.int .i64 q)) (by kernel_rfl) ⟨b0, b1⟩ (fun hHeld => ?_)
            clear b0 b1
            refine take_at (i := 0) (oi := _) 31 (v := .pointer (some ⟨w3.heap.size, 0, none⟩)) rfl rfl (by kernel_rfl) (by kernel_rfl) (by kernel_rfl) (fun _ _ _ h => h) (Or.inl ⟨by rfl, ?_⟩) hHeld ?_
            · (intro w hSw; (try dsimp only at hSw); go_split_ands; go_simp)
            simp only [List.setIfInBounds_toArray, List.set_cons_zero, List.set_cons_succ]
            refine take_at (i := 1) (oi := _) 32 (v := .int .i64 p) rfl rfl (by kernel_rfl) (by kernel_rfl) (by kernel_rfl) (fun _ _ _ h => h) (Or.inl ⟨by rfl, ?_⟩) hHeld ?_
            · (intro w hSw; (try dsimp only at hSw); go_split_ands; go_simp)
            simp only [List.setIfInBounds_toArray, List.set_cons_zero, List.set_cons_succ]
            refine take_at (i := 2) (oi := _) 33 (v := .pointer (some ⟨g, 0, none⟩)) rfl rfl (by kernel_rfl) (by kernel_rfl) (by kernel_rfl) (fun _ _ _ h => h) (Or.inl ⟨by rfl, ?_⟩) hHeld ?_
            · (intro w hSw; (try dsimp only at hSw); go_split_ands; go_simp)
            simp only [List.setIfInBounds_toArray, List.set_cons_zero, List.set_cons_succ]
            refine take_at (i := 7) (oi := _) 38 (v := .pointer (some ⟨w3.heap.size, 1, none⟩)) rfl rfl (by kernel_rfl) (by kernel_rfl) (by kernel_rfl) (fun _ _ _ h => h) (Or.inl ⟨by rfl, ?_⟩) hHeld ?_
            · (intro w hSw; (try dsimp only at hSw); go_split_ands; go_simp)
            simp only [List.setIfInBounds_toArray, List.set_cons_zero, List.set_cons_succ]
            refine take_at (i := 8) (oi := _) 39 (v := .int .i64 q) rfl rfl (by kernel_rfl) (by kernel_rfl) (by kernel_rfl) (fun _ _ _ h => h) (Or.inl ⟨by rfl, ?_⟩) hHeld ?_
            · (intro w hSw; (try dsimp only at hSw); go_split_ands; go_simp)
            simp only [List.setIfInBounds_toArray, List.set_cons_zero, List.set_cons_succ]
            refine take_at (i := 9) (oi := _) 40 (v := .pointer (some ⟨g, 0, none⟩)) rfl rfl (by kernel_rfl) (by kernel_rfl) (by kernel_rfl) (fun _ _ _ h => h) (Or.inl ⟨by rfl, ?_⟩) hHeld ?_
            · (intro w hSw; (try dsimp only at hSw); go_split_ands; go_simp)
            simp only [List.setIfInBounds_toArray, List.set_cons_zero, List.set_cons_succ]
            refine wpAnyH_ready (rs := [3, 10]) (by kernel_rfl) (by simp) ?_
            refine AllReadyH.cons (o := _) rfl (fun K9 hK => ?_) (AllReadyH.cons (o := _) rfl (fun K9 hK => ?_) AllReadyH.nil)
            · go_simp
              have KA := Lib.hid (L.out.fresh (ints [0, 8, 16, 24, 5]).toArray 3)
              simp only [sz1] at KA
              replace L := Lib.hid (L.out.alloc (.cells (ints [0, 8, 16, 24, 5]).toArray 3))
              replace SX := Lib.hid (SX.out.alloc (.cells (ints [0, 8, 16, 24, 5]).toArray 3))
              replace SB := Lib.hid (And.intro (SB.out.1.alloc (.cells (ints [0, 8, 16, 24, 5]).toArray 3)) SB.out.2)
              refine hK.out _ _ SB.out.1.c2 (fun hHeld => ?_)
              clear hK K9
              try simp only [Act.put, List.setIfInBounds_toArray, List.set_cons_zero, List.set_cons_succ]
              refine wpAnyH_ready (rs := [4, 10]) (by kernel_rfl) (by simp) ?_
              refine AllReadyH.cons (o := _) rfl (fun K9 hK => ?_) (AllReadyH.cons (o := _) rfl (fun K9 hK => ?_) AllReadyH.nil)
              · go_simp
                replace L := Lib.hid (L.out.drewN 1)
                replace SX := Lib.hid (SX.out.drewN 1)
                replace SB := Lib.hid (And.intro (SB.out.1.drewN 1) SB.out.2)
                replace KA := Lib.hid (And.intro (KA.out.1.drewN 1) KA.out.2)
                refine (among_blk B g (N + 40 * j + 16) _ _ [0, 8, 16, 24, 5] 0 24 _ L.out.cur (by omega) KA.out.2 KA.out.1 (by simp) (by simp) (by simp)).mono ?_
                rintro e w4 ⟨m, m0, m1, rfl, hc, hg⟩
                replace L := Lib.hid (L.out.ask hlt hc hg)
                replace SX := Lib.hid (SX.out.grown' hg (by have := hgx.out; omega))
                replace SB := Lib.hid (And.intro (SB.out.1.grown' hg (by have := SB.out.2; omega)) SB.out.2)
                clear hc hg KA
                refine hK.out _ _ SB.out.1.c2 (fun hHeld => ?_)
                clear hK K9
                try simp only [Act.put, List.setIfInBounds_toArray, List.set_cons_zero, List.set_cons_succ]
                obtain ⟨pm, epm⟩ : ∃ v, IntKind.i64.wrap (p + m) = v := ⟨_, rfl⟩
                refine take_at (i := 5) (oi := _) 36 (v := .int .i64 pm) rfl rfl (by kernel_rfl) (by kernel_rfl) (by kernel_rfl) (fun _ _ _ h => h) (Or.inl ⟨by rfl, ?_⟩) hHeld ?_
                · (intro w hSw; (try dsimp only at hSw); go_split_ands; go_simp)
                simp only [List.setIfInBounds_toArray, List.set_cons_zero, List.set_cons_succ]
                clear epm
                refine wpAnyH_ready (rs := [6, 10]) (by kernel_rfl) (by simp) ?_
                refine AllReadyH.cons (o := _) rfl (fun K9 hK => ?_) (AllReadyH.cons (o := _) rfl (fun K9 hK => ?_) AllReadyH.nil)
                · go_simp
                  refine (l1Least_any 1280 pm _).mono ?_
                  rintro e w' ⟨rfl, rfl⟩
                  refine hK.out _ _ SB.out.1.c2 (fun hHeld => ?_)
                  clear hK K9
                  try simp only [Act.put, List.setIfInBounds_toArray, List.set_cons_zero, List.set_cons_succ]
                  refine wpAnyH_ready (rs := [10]) (by kernel_rfl) (by simp) ?_
                  refine AllReadyH.cons (o := _) rfl (fun K9 hK => ?_) AllReadyH.nil
                  go_simp
                  have KB := Lib.hid (L.out.fresh (ints [0, 8, 16, 3]).toArray 3)
                  try simp only [sz1] at KB
                  replace L := Lib.hid (L.out.alloc (.cells (ints [0, 8, 16, 3]).toArray 3))
                  replace SX := Lib.hid (SX.out.alloc (.cells (ints [0, 8, 16, 3]).toArray 3))
                  replace SB := Lib.hid (And.intro (SB.out.1.alloc (.cells (ints [0, 8, 16, 3]).toArray 3)) SB.out.2)
                  try replace KA := Lib.hid (And.intro (KA.out.1.alloc (.cells (ints [0, 8, 16, 3]).toArray 3)) KA.out.2)
                  refine hK.out _ _ SB.out.1.c2 (fun hHeld => ?_)
                  clear hK K9
                  try simp only [Act.put, List.setIfInBounds_toArray, List.set_cons_zero, List.set_cons_succ]
                  refine wpAnyH_ready (rs := [11]) (by kernel_rfl) (by simp) ?_
                  refine AllReadyH.cons (o := _) rfl (fun K9 hK => ?_) AllReadyH.nil
                  go_simp
                  refine (among_blk B g (N + 40 * j + 18) _ _ [0, 8, 16, 3] 0 16 _ L.out.cur (by omega) KB.out.2 KB.out.1 (by simp) (by simp) (by simp)).mono ?_
                  rintro e w5 ⟨m9, m90, m91, rfl, hc, hg⟩
                  replace L := Lib.hid (L.out.ask hlt hc hg)
                  replace SX := Lib.hid (SX.out.grown' hg (by have := hgx.out; omega))
                  replace SB := Lib.hid (And.intro (SB.out.1.grown' hg (by have := SB.out.2; omega)) SB.out.2)
                  clear hc hg KB
                  refine hK.out _ _ SB.out.1.c2 (fun hHeld => ?_)
                  clear hK K9
                  try simp only [Act.put, List.setIfInBounds_toArray, List.set_cons_zero, List.set_cons_succ]
                  obtain ⟨qm, eqm⟩ : ∃ v, IntKind.i64.wrap (q + m9) = v := ⟨_, rfl⟩
                  refine take_at (i := 12) (oi := _) 43 (v := .int .i64 qm) rfl rfl (by kernel_rfl) (by kernel_rfl) (by kernel_rfl) (fun _ _ _ h => h) (Or.inl ⟨by rfl, ?_⟩) hHeld ?_
                  · (intro w hSw; (try dsimp only at hSw); go_split_ands; go_simp)
                  simp only [List.setIfInBounds_toArray, List.set_cons_zero, List.set_cons_succ]
                  clear eqm
                  refine wpAnyH_ready (rs := [13]) (by kernel_rfl) (by simp) ?_
                  refine AllReadyH.cons (o := _) rfl (fun K9 hK => ?_) AllReadyH.nil
                  go_simp
                  refine (l1Least_any 672 qm _).mono ?_
                  rintro e w' ⟨rfl, rfl⟩
                  refine hK.out _ _ SB.out.1.c2 (fun hHeld => ?_)
                  clear hK K9
                  try simp only [Act.put, List.setIfInBounds_toArray, List.set_cons_zero, List.set_cons_succ]
                  obtain ⟨xa, exa⟩ : ∃ v, min 1280 pm = v := ⟨_, rfl⟩
                  obtain ⟨ya, eya⟩ : ∃ v, min 672 qm = v := ⟨_, rfl⟩
                  rw [exa, eya]
                  clear exa eya
                  refine take_at (i := 14) (oi := _) 45 (v := (Value.agg #[Value.int .i64 xa, Value.int .i64 ya])) rfl rfl (by kernel_rfl) (by kernel_rfl) (by kernel_rfl) (fun _ _ _ h => h) (Or.inl ⟨by rfl, ?_⟩) hHeld ?_
                  · (intro w hSw; (try dsimp only at hSw); go_split_ands; go_simp)
                  simp only [List.setIfInBounds_toArray, List.set_cons_zero, List.set_cons_succ]
                  obtain ⟨x0, x1⟩ := SX.out.c2
                  have f0 := SX.out.frozen 0
                  have f1 := SX.out.frozen 1
                  have hsb := SB.out
                  refine wpAnyH_ready (rs := [15]) (by kernel_rfl) (by simp) ?_
                  refine AllReadyH.cons (o := _) rfl (fun K9 hK => ?_) AllReadyH.nil
                  go_simp
                  replace SX := Lib.hid (SX.out.set2 (.int .i64 xa) (.int .i64 ya))
                  replace L := Lib.hid ((L.out.put (p := ⟨w1.heap.size, 0, none⟩) hown.out hgx.out hwx.out (.int .i64 xa)).put (p := ⟨w1.heap.size, 1, none⟩) hown.out hgx.out hwx.out (.int .i64 ya))
                  replace SB := Lib.hid (And.intro ((SB.out.1.far (p := ⟨w1.heap.size, 0, none⟩) hbx.out (.int .i64 xa)).far (p := ⟨w1.heap.size, 1, none⟩) hbx.out (.int .i64 ya)) SB.out.2)
                  refine hK.out _ _ SB.out.1.c2 (fun hHeld => ?_)
                  clear hK K9
                  try simp only [Act.put, List.setIfInBounds_toArray, List.set_cons_zero, List.set_cons_succ]
                  refine wpAnyH_done (by kernel_rfl) ?_ _
                  go_wp2_with fail
                  refine Met.intro ?_
                  go_step
                  exact ⟨xa, ya, meet_at ⟨L.out, SX.out⟩ (by kernel_rfl)⟩
                · go_simp
                  have KB := Lib.hid (L.out.fresh (ints [0, 8, 16, 3]).toArray 3)
                  try simp only [sz1] at KB
                  replace L := Lib.hid (L.out.alloc (.cells (ints [0, 8, 16, 3]).toArray 3))
                  replace SX := Lib.hid (SX.out.alloc (.cells (ints [0, 8, 16, 3]).toArray 3))
                  replace SB := Lib.hid (And.intro (SB.out.1.alloc (.cells (ints [0, 8, 16, 3]).toArray 3)) SB.out.2)
                  try replace KA := Lib.hid (And.intro (KA.out.1.alloc (.cells (ints [0, 8, 16, 3]).toArray 3)) KA.out.2)
                  refine hK.out _ _ SB.out.1.c2 (fun hHeld => ?_)
                  clear hK K9
                  try simp only [Act.put, List.setIfInBounds_toArray, List.set_cons_zero, List.set_cons_succ]
                  refine wpAnyH_ready (rs := [6]) (by kernel_rfl) (by simp) ?_
                  refine AllReadyH.cons (o := _) rfl (fun K9 hK => ?_) AllReadyH.nil
                  go_simp
                  refine (l1Least_any 1280 pm _).mono ?_
                  rintro e w' ⟨rfl, rfl⟩
                  refine hK.out _ _ SB.out.1.c2 (fun hHeld => ?_)
                  clear hK K9
                  try simp only [Act.put, List.setIfInBounds_toArray, List.set_cons_zero, List.set_cons_succ]
                  refine wpAnyH_ready (rs := [11]) (by kernel_rfl) (by simp) ?_
                  refine AllReadyH.cons (o := _) rfl (fun K9 hK => ?_) AllReadyH.nil
                  go_simp
                  refine (among_blk B g (N + 40 * j + 18) _ _ [0, 8, 16, 3] 0 16 _ L.out.cur (by omega) KB.out.2 KB.out.1 (by simp) (by simp) (by simp)).mono ?_
                  rintro e w5 ⟨m9, m90, m91, rfl, hc, hg⟩
                  replace L := Lib.hid (L.out.ask hlt hc hg)
                  replace SX := Lib.hid (SX.out.grown' hg (by have := hgx.out; omega))
                  replace SB := Lib.hid (And.intro (SB.out.1.grown' hg (by have := SB.out.2; omega)) SB.out.2)
                  clear hc hg KB
                  refine hK.out _ _ SB.out.1.c2 (fun hHeld => ?_)
                  clear hK K9
                  try simp only [Act.put, List.setIfInBounds_toArray, List.set_cons_zero, List.set_cons_succ]
                  obtain ⟨qm, eqm⟩ : ∃ v, IntKind.i64.wrap (q + m9) = v := ⟨_, rfl⟩
                  refine take_at (i := 12) (oi := _) 43 (v := .int .i64 qm) rfl rfl (by kernel_rfl) (by kernel_rfl) (by kernel_rfl) (fun _ _ _ h => h) (Or.inl ⟨by rfl, ?_⟩) hHeld ?_
                  · (intro w hSw; (try dsimp only at hSw); go_split_ands; go_simp)
                  simp only [List.setIfInBounds_toArray, List.set_cons_zero, List.set_cons_succ]
                  clear eqm
                  refine wpAnyH_ready (rs := [13]) (by kernel_rfl) (by simp) ?_
                  refine AllReadyH.cons (o := _) rfl (fun K9 hK => ?_) AllReadyH.nil
                  go_simp
                  refine (l1Least_any 672 qm _).mono ?_
                  rintro e w' ⟨rfl, rfl⟩
                  refine hK.out _ _ SB.out.1.c2 (fun hHeld => ?_)
                  clear hK K9
                  try simp only [Act.put, List.setIfInBounds_toArray, List.set_cons_zero, List.set_cons_succ]
                  obtain ⟨xa, exa⟩ : ∃ v, min 1280 pm = v := ⟨_, rfl⟩
                  obtain ⟨ya, eya⟩ : ∃ v, min 672 qm = v := ⟨_, rfl⟩
                  rw [exa, eya]
                  clear exa eya
                  refine take_at (i := 14) (oi := _) 45 (v := (Value.agg #[Value.int .i64 xa, Value.int .i64 ya])) rfl rfl (by kernel_rfl) (by kernel_rfl) (by kernel_rfl) (fun _ _ _ h => h) (Or.inl ⟨by rfl, ?_⟩) hHeld ?_
                  · (intro w hSw; (try dsimp only at hSw); go_split_ands; go_simp)
                  simp only [List.setIfInBounds_toArray, List.set_cons_zero, List.set_cons_succ]
                  obtain ⟨x0, x1⟩ := SX.out.c2
                  have f0 := SX.out.frozen 0
                  have f1 := SX.out.frozen 1
                  have hsb := SB.out
                  refine wpAnyH_ready (rs := [15]) (by kernel_rfl) (by simp) ?_
                  refine AllReadyH.cons (o := _) rfl (fun K9 hK => ?_) AllReadyH.nil
                  go_simp
                  replace SX := Lib.hid (SX.out.set2 (.int .i64 xa) (.int .i64 ya))
                  replace L := Lib.hid ((L.out.put (p := ⟨w1.heap.size, 0, none⟩) hown.out hgx.out hwx.out (.int .i64 xa)).put (p := ⟨w1.heap.size, 1, none⟩) hown.out hgx.out hwx.out (.int .i64 ya))
                  replace SB := Lib.hid (And.intro ((SB.out.1.far (p := ⟨w1.heap.size, 0, none⟩) hbx.out (.int .i64 xa)).far (p := ⟨w1.heap.size, 1, none⟩) hbx.out (.int .i64 ya)) SB.out.2)
                  refine hK.out _ _ SB.out.1.c2 (fun hHeld => ?_)
                  clear hK K9
                  try simp only [Act.put, List.setIfInBounds_toArray, List.set_cons_zero, List.set_cons_succ]
                  refine wpAnyH_done (by kernel_rfl) ?_ _
                  go_wp2_with fail
                  refine Met.intro ?_
                  go_step
                  exact ⟨xa, ya, meet_at ⟨L.out, SX.out⟩ (by kernel_rfl)⟩
              · go_simp
                have KB := Lib.hid (L.out.fresh (ints [0, 8, 16, 3]).toArray 3)
                try simp only [sz1] at KB
                replace L := Lib.hid (L.out.alloc (.cells (ints [0, 8, 16, 3]).toArray 3))
                replace SX := Lib.hid (SX.out.alloc (.cells (ints [0, 8, 16, 3]).toArray 3))
                replace SB := Lib.hid (And.intro (SB.out.1.alloc (.cells (ints [0, 8, 16, 3]).toArray 3)) SB.out.2)
                try replace KA := Lib.hid (And.intro (KA.out.1.alloc (.cells (ints [0, 8, 16, 3]).toArray 3)) KA.out.2)
                refine hK.out _ _ SB.out.1.c2 (fun hHeld => ?_)
                clear hK K9
                try simp only [Act.put, List.setIfInBounds_toArray, List.set_cons_zero, List.set_cons_succ]
                refine wpAnyH_ready (rs := [4]) (by kernel_rfl) (by simp) ?_
                refine AllReadyH.cons (o := _) rfl (fun K9 hK => ?_) AllReadyH.nil
                go_simp
                replace L := Lib.hid (L.out.drewN 1)
                replace SX := Lib.hid (SX.out.drewN 1)
                replace SB := Lib.hid (And.intro (SB.out.1.drewN 1) SB.out.2)
                replace KA := Lib.hid (And.intro (KA.out.1.drewN 1) KA.out.2)
                replace KB := Lib.hid (And.intro (KB.out.1.drewN 1) KB.out.2)
                refine (among_blk B g (N + 40 * j + 16) _ _ [0, 8, 16, 24, 5] 0 24 _ L.out.cur (by omega) KA.out.2 KA.out.1 (by simp) (by simp) (by simp)).mono ?_
                rintro e w4 ⟨m, m0, m1, rfl, hc, hg⟩
                replace L := Lib.hid (L.out.ask hlt hc hg)
                replace SX := Lib.hid (SX.out.grown' hg (by have := hgx.out; omega))
                replace SB := Lib.hid (And.intro (SB.out.1.grown' hg (by have := SB.out.2; omega)) SB.out.2)
                replace KB := Lib.hid (And.intro (KB.out.1.grown' hg (by have := KB.out.2; omega)) KB.out.2)
                clear hc hg KA
                refine hK.out _ _ SB.out.1.c2 (fun hHeld => ?_)
                clear hK K9
                try simp only [Act.put, List.setIfInBounds_toArray, List.set_cons_zero, List.set_cons_succ]
                obtain ⟨pm, epm⟩ : ∃ v, IntKind.i64.wrap (p + m) = v := ⟨_, rfl⟩
                refine take_at (i := 5) (oi := _) 36 (v := .int .i64 pm) rfl rfl (by kernel_rfl) (by kernel_rfl) (by kernel_rfl) (fun _ _ _ h => h) (Or.inl ⟨by rfl, ?_⟩) hHeld ?_
                · (intro w hSw; (try dsimp only at hSw); go_split_ands; go_simp)
                simp only [List.setIfInBounds_toArray, List.set_cons_zero, List.set_cons_succ]
                clear epm
                refine wpAnyH_ready (rs := [6]) (by kernel_rfl) (by simp) ?_
                refine AllReadyH.cons (o := _) rfl (fun K9 hK => ?_) AllReadyH.nil
                go_simp
                refine (l1Least_any 1280 pm _).mono ?_
                rintro e w' ⟨rfl, rfl⟩
                refine hK.out _ _ SB.out.1.c2 (fun hHeld => ?_)
                clear hK K9
                try simp only [Act.put, List.setIfInBounds_toArray, List.set_cons_zero, List.set_cons_succ]
                refine wpAnyH_ready (rs := [11]) (by kernel_rfl) (by simp) ?_
                refine AllReadyH.cons (o := _) rfl (fun K9 hK => ?_) AllReadyH.nil
                go_simp
                refine (among_blk B g (N + 40 * j + 18) _ _ [0, 8, 16, 3] 0 16 _ L.out.cur (by omega) KB.out.2 KB.out.1 (by simp) (by simp) (by simp)).mono ?_
                rintro e w5 ⟨m9, m90, m91, rfl, hc, hg⟩
                replace L := Lib.hid (L.out.ask hlt hc hg)
                replace SX := Lib.hid (SX.out.grown' hg (by have := hgx.out; omega))
                replace SB := Lib.hid (And.intro (SB.out.1.grown' hg (by have := SB.out.2; omega)) SB.out.2)
                clear hc hg KB
                refine hK.out _ _ SB.out.1.c2 (fun hHeld => ?_)
                clear hK K9
                try simp only [Act.put, List.setIfInBounds_toArray, List.set_cons_zero, List.set_cons_succ]
                obtain ⟨qm, eqm⟩ : ∃ v, IntKind.i64.wrap (q + m9) = v := ⟨_, rfl⟩
                refine take_at (i := 12) (oi := _) 43 (v := .int .i64 qm) rfl rfl (by kernel_rfl) (by kernel_rfl) (by kernel_rfl) (fun _ _ _ h => h) (Or.inl ⟨by rfl, ?_⟩) hHeld ?_
                · (intro w hSw; (try dsimp only at hSw); go_split_ands; go_simp)
                simp only [List.setIfInBounds_toArray, List.set_cons_zero, List.set_cons_succ]
                clear eqm
                refine wpAnyH_ready (rs := [13]) (by kernel_rfl) (by simp) ?_
                refine AllReadyH.cons (o := _) rfl (fun K9 hK => ?_) AllReadyH.nil
                go_simp
                refine (l1Least_any 672 qm _).mono ?_
                rintro e w' ⟨rfl, rfl⟩
                refine hK.out _ _ SB.out.1.c2 (fun hHeld => ?_)
                clear hK K9
                try simp only [Act.put, List.setIfInBounds_toArray, List.set_cons_zero, List.set_cons_succ]
                obtain ⟨xa, exa⟩ : ∃ v, min 1280 pm = v := ⟨_, rfl⟩
                obtain ⟨ya, eya⟩ : ∃ v, min 672 qm = v := ⟨_, rfl⟩
                rw [exa, eya]
                clear exa eya
                refine take_at (i := 14) (oi := _) 45 (v := (Value.agg #[Value.int .i64 xa, Value.int .i64 ya])) rfl rfl (by kernel_rfl) (by kernel_rfl) (by kernel_rfl) (fun _ _ _ h => h) (Or.inl ⟨by rfl, ?_⟩) hHeld ?_
                · (intro w hSw; (try dsimp only at hSw); go_split_ands; go_simp)
                simp only [List.setIfInBounds_toArray, List.set_cons_zero, List.set_cons_succ]
                obtain ⟨x0, x1⟩ := SX.out.c2
                have f0 := SX.out.frozen 0
                have f1 := SX.out.frozen 1
                have hsb := SB.out
                refine wpAnyH_ready (rs := [15]) (by kernel_rfl) (by simp) ?_
                refine AllReadyH.cons (o := _) rfl (fun K9 hK => ?_) AllReadyH.nil
                go_simp
                replace SX := Lib.hid (SX.out.set2 (.int .i64 xa) (.int .i64 ya))
                replace L := Lib.hid ((L.out.put (p := ⟨w1.heap.size, 0, none⟩) hown.out hgx.out hwx.out (.int .i64 xa)).put (p := ⟨w1.heap.size, 1, none⟩) hown.out hgx.out hwx.out (.int .i64 ya))
                replace SB := Lib.hid (And.intro ((SB.out.1.far (p := ⟨w1.heap.size, 0, none⟩) hbx.out (.int .i64 xa)).far (p := ⟨w1.heap.size, 1, none⟩) hbx.out (.int .i64 ya)) SB.out.2)
                refine hK.out _ _ SB.out.1.c2 (fun hHeld => ?_)
                clear hK K9
                try simp only [Act.put, List.setIfInBounds_toArray, List.set_cons_zero, List.set_cons_succ]
                refine wpAnyH_done (by kernel_rfl) ?_ _
                go_wp2_with fail
                refine Met.intro ?_
                go_step
                exact ⟨xa, ya, meet_at ⟨L.out, SX.out⟩ (by kernel_rfl)⟩
            · go_simp
              have KB := Lib.hid (L.out.fresh (ints [0, 8, 16, 3]).toArray 3)
              try simp only [sz1] at KB
              replace L := Lib.hid (L.out.alloc (.cells (ints [0, 8, 16, 3]).toArray 3))
              replace SX := Lib.hid (SX.out.alloc (.cells (ints [0, 8, 16, 3]).toArray 3))
              replace SB := Lib.hid (And.intro (SB.out.1.alloc (.cells (ints [0, 8, 16, 3]).toArray 3)) SB.out.2)
              try replace KA := Lib.hid (And.intro (KA.out.1.alloc (.cells (ints [0, 8, 16, 3]).toArray 3)) KA.out.2)
              refine hK.out _ _ SB.out.1.c2 (fun hHeld => ?_)
              clear hK K9
              try simp only [Act.put, List.setIfInBounds_toArray, List.set_cons_zero, List.set_cons_succ]
              refine wpAnyH_ready (rs := [3]) (by kernel_rfl) (by simp) ?_
              refine AllReadyH.cons (o := _) rfl (fun K9 hK => ?_) AllReadyH.nil
              go_simp
              have KA := Lib.hid (L.out.fresh (ints [0, 8, 16, 24, 5]).toArray 3)
              simp only [sz1] at KA
              replace L := Lib.hid (L.out.alloc (.cells (ints [0, 8, 16, 24, 5]).toArray 3))
              replace SX := Lib.hid (SX.out.alloc (.cells (ints [0, 8, 16, 24, 5]).toArray 3))
              replace SB := Lib.hid (And.intro (SB.out.1.alloc (.cells (ints [0, 8, 16, 24, 5]).toArray 3)) SB.out.2)
              replace KB := Lib.hid (And.intro (KB.out.1.alloc (.cells (ints [0, 8, 16, 24, 5]).toArray 3)) KB.out.2)
              refine hK.out _ _ SB.out.1.c2 (fun hHeld => ?_)
              clear hK K9
              try simp only [Act.put, List.setIfInBounds_toArray, List.set_cons_zero, List.set_cons_succ]
              refine wpAnyH_ready (rs := [4]) (by kernel_rfl) (by simp) ?_
              refine AllReadyH.cons (o := _) rfl (fun K9 hK => ?_) AllReadyH.nil
              go_simp
              replace L := Lib.hid (L.out.drewN 1)
              replace SX := Lib.hid (SX.out.drewN 1)
              replace SB := Lib.hid (And.intro (SB.out.1.drewN 1) SB.out.2)
              replace KA := Lib.hid (And.intro (KA.out.1.drewN 1) KA.out.2)
              replace KB := Lib.hid (And.intro (KB.out.1.drewN 1) KB.out.2)
              refine (among_blk B g (N + 40 * j + 16) _ _ [0, 8, 16, 24, 5] 0 24 _ L.out.cur (by omega) KA.out.2 KA.out.1 (by simp) (by simp) (by simp)).mono ?_
              rintro e w4 ⟨m, m0, m1, rfl, hc, hg⟩
              replace L := Lib.hid (L.out.ask hlt hc hg)
              replace SX := Lib.hid (SX.out.grown' hg (by have := hgx.out; omega))
              replace SB := Lib.hid (And.intro (SB.out.1.grown' hg (by have := SB.out.2; omega)) SB.out.2)
              replace KB := Lib.hid (And.intro (KB.out.1.grown' hg (by have := KB.out.2; omega)) KB.out.2)
              clear hc hg KA
              refine hK.out _ _ SB.out.1.c2 (fun hHeld => ?_)
              clear hK K9
              try simp only [Act.put, List.setIfInBounds_toArray, List.set_cons_zero, List.set_cons_succ]
              obtain ⟨pm, epm⟩ : ∃ v, IntKind.i64.wrap (p + m) = v := ⟨_, rfl⟩
              refine take_at (i := 5) (oi := _) 36 (v := .int .i64 pm) rfl rfl (by kernel_rfl) (by kernel_rfl) (by kernel_rfl) (fun _ _ _ h => h) (Or.inl ⟨by rfl, ?_⟩) hHeld ?_
              · (intro w hSw; (try dsimp only at hSw); go_split_ands; go_simp)
              simp only [List.setIfInBounds_toArray, List.set_cons_zero, List.set_cons_succ]
              clear epm
              refine wpAnyH_ready (rs := [6]) (by kernel_rfl) (by simp) ?_
              refine AllReadyH.cons (o := _) rfl (fun K9 hK => ?_) AllReadyH.nil
              go_simp
              refine (l1Least_any 1280 pm _).mono ?_
              rintro e w' ⟨rfl, rfl⟩
              refine hK.out _ _ SB.out.1.c2 (fun hHeld => ?_)
              clear hK K9
              try simp only [Act.put, List.setIfInBounds_toArray, List.set_cons_zero, List.set_cons_succ]
              refine wpAnyH_ready (rs := [11]) (by kernel_rfl) (by simp) ?_
              refine AllReadyH.cons (o := _) rfl (fun K9 hK => ?_) AllReadyH.nil
              go_simp
              refine (among_blk B g (N + 40 * j + 18) _ _ [0, 8, 16, 3] 0 16 _ L.out.cur (by omega) KB.out.2 KB.out.1 (by simp) (by simp) (by simp)).mono ?_
              rintro e w5 ⟨m9, m90, m91, rfl, hc, hg⟩
              replace L := Lib.hid (L.out.ask hlt hc hg)
              replace SX := Lib.hid (SX.out.grown' hg (by have := hgx.out; omega))
              replace SB := Lib.hid (And.intro (SB.out.1.grown' hg (by have := SB.out.2; omega)) SB.out.2)
              clear hc hg KB
              refine hK.out _ _ SB.out.1.c2 (fun hHeld => ?_)
              clear hK K9
              try simp only [Act.put, List.setIfInBounds_toArray, List.set_cons_zero, List.set_cons_succ]
              obtain ⟨qm, eqm⟩ : ∃ v, IntKind.i64.wrap (q + m9) = v := ⟨_, rfl⟩
              refine take_at (i := 12) (oi := _) 43 (v := .int .i64 qm) rfl rfl (by kernel_rfl) (by kernel_rfl) (by kernel_rfl) (fun _ _ _ h => h) (Or.inl ⟨by rfl, ?_⟩) hHeld ?_
              · (intro w hSw; (try dsimp only at hSw); go_split_ands; go_simp)
              simp only [List.setIfInBounds_toArray, List.set_cons_zero, List.set_cons_succ]
              clear eqm
              refine wpAnyH_ready (rs := [13]) (by kernel_rfl) (by simp) ?_
              refine AllReadyH.cons (o := _) rfl (fun K9 hK => ?_) AllReadyH.nil
              go_simp
              refine (l1Least_any 672 qm _).mono ?_
              rintro e w' ⟨rfl, rfl⟩
              refine hK.out _ _ SB.out.1.c2 (fun hHeld => ?_)
              clear hK K9
              try simp only [Act.put, List.setIfInBounds_toArray, List.set_cons_zero, List.set_cons_succ]
              obtain ⟨xa, exa⟩ : ∃ v, min 1280 pm = v := ⟨_, rfl⟩
              obtain ⟨ya, eya⟩ : ∃ v, min 672 qm = v := ⟨_, rfl⟩
              rw [exa, eya]
              clear exa eya
              refine take_at (i := 14) (oi := _) 45 (v := (Value.agg #[Value.int .i64 xa, Value.int .i64 ya])) rfl rfl (by kernel_rfl) (by kernel_rfl) (by kernel_rfl) (fun _ _ _ h => h) (Or.inl ⟨by rfl, ?_⟩) hHeld ?_
              · (intro w hSw; (try dsimp only at hSw); go_split_ands; go_simp)
              simp only [List.setIfInBounds_toArray, List.set_cons_zero, List.set_cons_succ]
              obtain ⟨x0, x1⟩ := SX.out.c2
              have f0 := SX.out.frozen 0
              have f1 := SX.out.frozen 1
              have hsb := SB.out
              refine wpAnyH_ready (rs := [15]) (by kernel_rfl) (by simp) ?_
              refine AllReadyH.cons (o := _) rfl (fun K9 hK => ?_) AllReadyH.nil
              go_simp
              replace SX := Lib.hid (SX.out.set2 (.int .i64 xa) (.int .i64 ya))
              replace L := Lib.hid ((L.out.put (p := ⟨w1.heap.size, 0, none⟩) hown.out hgx.out hwx.out (.int .i64 xa)).put (p := ⟨w1.heap.size, 1, none⟩) hown.out hgx.out hwx.out (.int .i64 ya))
              replace SB := Lib.hid (And.intro ((SB.out.1.far (p := ⟨w1.heap.size, 0, none⟩) hbx.out (.int .i64 xa)).far (p := ⟨w1.heap.size, 1, none⟩) hbx.out (.int .i64 ya)) SB.out.2)
              refine hK.out _ _ SB.out.1.c2 (fun hHeld => ?_)
              clear hK K9
              try simp only [Act.put, List.setIfInBounds_toArray, List.set_cons_zero, List.set_cons_succ]
              refine wpAnyH_done (by kernel_rfl) ?_ _
              go_wp2_with fail
              refine Met.intro ?_
              go_step
              exact ⟨xa, ya, meet_at ⟨L.out, SX.out⟩ (by kernel_rfl)⟩
        | false =>
          by_cases hj60 : 60 < j
          · have d3 : decide ((60 : Int) < (j : Int)) = true := by simp; omega
            have hk13 : k < 13 := by omega
            have hj99 : j ≤ 99 := by omega
            obtain ⟨x0, x1⟩ := SX.out.c2
            have f0 := SX.out.frozen 0
            have f1 := SX.out.frozen 1
            have hw := hwx.out
            obtain ⟨X3, eX⟩ : ∃ q, 3 * (k : Int) = q := ⟨_, rfl⟩
            obtain ⟨Y7, eY⟩ : ∃ q, 7 + (j : Int) = q := ⟨_, rfl⟩
            have u1 := IntWalk.i64_in X3 (by omega)
            have u2 := IntWalk.i64_in Y7 (by omega)
            have u3 := IntWalk.i64_in (3 * (k : Int)) (by omega)
            have u4 := IntWalk.i64_in (7 + (j : Int)) (by omega)
            have EY := Lib.hid eY
            replace SX := Lib.hid (SX.out.set2 (.int .i64 X3) (.int .i64 Y7))
            replace L := Lib.hid ((L.out.put (p := ⟨w1.heap.size, 0, none⟩) hown.out hgx.out hwx.out (.int .i64 X3)).put (p := ⟨w1.heap.size, 1, none⟩) hown.out hgx.out hwx.out (.int .i64 Y7))
            go_wp2_with fail
            clear f0 f1 x0 x1
            obtain ⟨x0, x1⟩ := SX.out.c2
            refine (chFind_any _ k _ xs X3 Y7 _ (Rd.of_own L.out.own) (Nat.le_refl _) (by omega)).mono ?_
            rintro e w5 ⟨r, rfl, hr, hb⟩
            replace L := Lib.hid (L.out.below hb)
            replace SX := Lib.hid (SX.out.on hb)
            clear hb x0 x1
            obtain ⟨x0, x1⟩ := SX.out.c2
            by_cases hr0 : r < 0
            · have d4 : decide (r < 0) = true := by simpa using hr0
              clear hr
              have hsz := L.out.only.size
              have SY := Lib.hid (Blk.new w5 75 #[.int .i64 X3, .int .i64 Y7])
              have L2 := Lib.hid (L.out.alloc (.cells #[.int .i64 X3, .int .i64 Y7] 75))
              go_wp2_with (at_builtin; refine app_part rfl _ _ rfl w.heap.size _ k xs rfl L2.out.own _ 1 [X3, Y7] rfl (part_one SY.out) (by omega) (by simp; omega) ?_; intro v' w6 ho hg)
              have L3 := Lib.hid (show Lso w B g (N + 40 * j + 14) w6 v' (k + 1) (xs ++ [X3, Y7]) from ⟨ho, L2.out.cur.grown hg (fun i hi => by have := (L2.out.own.lt i hi).1; omega), only_grown L2.out.only hg (fun i hi => .inr (L2.out.own.lt i hi).1)⟩)
              have hxl := L.out.len
              have hap := chN_app xs X3 Y7 (j + 1) k hxl
              have hnx := chN_next xs j k
              have hle := chN_le xs (j + 1) k
              go_wp2_with fail
              go_roundw
              case rel => exact ⟨k + 1, j + 1, xs ++ [X3, Y7], by go_num, by omega, by rw [hap]; split <;> omega, L3.out.le (by omega)⟩
              case measure => simp [intOf]; omega
            · have d4 : decide (r < 0) = false := by simpa using hr0
              have hle := chN_le xs (j + 1) k
              have hnx := chN_next xs j k
              obtain ⟨i, hi, _, hiy⟩ := hr (by omega)
              have hmet := chN_met k i hi (hiy.trans EY.out.symm)
              go_wp2_with fail
              go_roundw
              case rel => exact ⟨k, j + 1, xs, by go_num, by omega, by omega, L.out.le (by omega)⟩
              case measure => simp [intOf]; omega
          · have d3 : decide ((60 : Int) < (j : Int)) = false := by simp; omega
            obtain ⟨x0, x1⟩ := SX.out.c2
            go_wp2_with fail
            refine (chFind_any _ k _ xs x y _ (Rd.of_own L.out.own) (Nat.le_refl _) (by omega)).mono ?_
            rintro e w5 ⟨r, rfl, hr, hb⟩
            replace L := Lib.hid (L.out.below hb)
            replace SX := Lib.hid (SX.out.on hb)
            clear hb x0 x1
            obtain ⟨x0, x1⟩ := SX.out.c2
            by_cases hr0 : r < 0
            · have d4 : decide (r < 0) = true := by simpa using hr0
              clear hr
              have hsz := L.out.only.size
              have SY := Lib.hid (Blk.new w5 75 #[.int .i64 x, .int .i64 y])
              have L2 := Lib.hid (L.out.alloc (.cells #[.int .i64 x, .int .i64 y] 75))
              go_wp2_with (at_builtin; refine app_part rfl _ _ rfl w.heap.size _ k xs rfl L2.out.own _ 1 [x, y] rfl (part_one SY.out) (by omega) (by simp; omega) ?_; intro v' w6 ho hg)
              have L3 := Lib.hid (show Lso w B g (N + 40 * j + 14) w6 v' (k + 1) (xs ++ [x, y]) from ⟨ho, L2.out.cur.grown hg (fun i hi => by have := (L2.out.own.lt i hi).1; omega), only_grown L2.out.only hg (fun i hi => .inr (L2.out.own.lt i hi).1)⟩)
              have hxl := L.out.len
              have hap := chN_app xs x y (j + 1) k hxl
              have hnx := chN_next xs j k
              have hle := chN_le xs (j + 1) k
              go_wp2_with fail
              go_roundw
              case rel => exact ⟨k + 1, j + 1, xs ++ [x, y], by go_num, by omega, by rw [hap]; split <;> omega, L3.out.le (by omega)⟩
              case measure => simp [intOf]; omega
            · have d4 : decide (r < 0) = false := by simpa using hr0
              have hle := chN_le xs (j + 1) k
              have hnx := chN_next xs j k
              go_wp2_with fail
              go_roundw
              case rel => exact ⟨k, j + 1, xs, by go_num, by omega, by omega, L.out.le (by omega)⟩
              case measure => simp [intOf]; omega
      · have d2 : decide ((0 : Int) < (k : Int)) = false := by simp; omega
        go_upto_if 23 with (fail)
        go_step
        go_step
        clear hk0 d2
        by_cases hj60 : 60 < j
        · have d3 : decide ((60 : Int) < (j : Int)) = true := by simp; omega
          have hk13 : k < 13 := by omega
          have hj99 : j ≤ 99 := by omega
          obtain ⟨x0, x1⟩ := SX.out.c2
          have f0 := SX.out.frozen 0
          have f1 := SX.out.frozen 1
          have hw := hwx.out
          obtain ⟨X3, eX⟩ : ∃ q, 3 * (k : Int) = q := ⟨_, rfl⟩
          obtain ⟨Y7, eY⟩ : ∃ q, 7 + (j : Int) = q := ⟨_, rfl⟩
          have u1 := IntWalk.i64_in X3 (by omega)
          have u2 := IntWalk.i64_in Y7 (by omega)
          have u3 := IntWalk.i64_in (3 * (k : Int)) (by omega)
          have u4 := IntWalk.i64_in (7 + (j : Int)) (by omega)
          have EY := Lib.hid eY
          replace SX := Lib.hid (Blk.new w1 75 #[.int .i64 X3, .int .i64 Y7])
          replace L := Lib.hid (LW.out.alloc (.cells #[.int .i64 X3, .int .i64 Y7] 75))
          go_wp2_with fail
          clear f0 f1 x0 x1
          obtain ⟨x0, x1⟩ := SX.out.c2
          refine (chFind_any _ k _ xs X3 Y7 _ (Rd.of_own L.out.own) (Nat.le_refl _) (by omega)).mono ?_
          rintro e w5 ⟨r, rfl, hr, hb⟩
          replace L := Lib.hid (L.out.below hb)
          replace SX := Lib.hid (SX.out.on hb)
          clear hb x0 x1
          obtain ⟨x0, x1⟩ := SX.out.c2
          by_cases hr0 : r < 0
          · have d4 : decide (r < 0) = true := by simpa using hr0
            clear hr
            have hsz := L.out.only.size
            have SY := Lib.hid (Blk.new w5 75 #[.int .i64 X3, .int .i64 Y7])
            have L2 := Lib.hid (L.out.alloc (.cells #[.int .i64 X3, .int .i64 Y7] 75))
            go_wp2_with (at_builtin; refine app_part rfl _ _ rfl w.heap.size _ k xs rfl L2.out.own _ 1 [X3, Y7] rfl (part_one SY.out) (by omega) (by simp; omega) ?_; intro v' w6 ho hg)
            have L3 := Lib.hid (show Lso w B g (N + 40 * j + 12) w6 v' (k + 1) (xs ++ [X3, Y7]) from ⟨ho, L2.out.cur.grown hg (fun i hi => by have := (L2.out.own.lt i hi).1; omega), only_grown L2.out.only hg (fun i hi => .inr (L2.out.own.lt i hi).1)⟩)
            have hxl := L.out.len
            have hap := chN_app xs X3 Y7 (j + 1) k hxl
            have hnx := chN_next xs j k
            have hle := chN_le xs (j + 1) k
            go_wp2_with fail
            go_roundw
            case rel => exact ⟨k + 1, j + 1, xs ++ [X3, Y7], by go_num, by omega, by rw [hap]; split <;> omega, L3.out.le (by omega)⟩
            case measure => simp [intOf]; omega
          · have d4 : decide (r < 0) = false := by simpa using hr0
            have hle := chN_le xs (j + 1) k
            have hnx := chN_next xs j k
            obtain ⟨i, hi, _, hiy⟩ := hr (by omega)
            have hmet := chN_met k i hi (hiy.trans EY.out.symm)
            go_wp2_with fail
            go_roundw
            case rel => exact ⟨k, j + 1, xs, by go_num, by omega, by omega, L.out.le (by omega)⟩
            case measure => simp [intOf]; omega
        · have d3 : decide ((60 : Int) < (j : Int)) = false := by simp; omega
          obtain ⟨x0, x1⟩ := SX.out.c2
          go_wp2_with fail
          refine (chFind_any _ k _ xs x y _ (Rd.of_own L.out.own) (Nat.le_refl _) (by omega)).mono ?_
          rintro e w5 ⟨r, rfl, hr, hb⟩
          replace L := Lib.hid (L.out.below hb)
          replace SX := Lib.hid (SX.out.on hb)
          clear hb x0 x1
          obtain ⟨x0, x1⟩ := SX.out.c2
          by_cases hr0 : r < 0
          · have d4 : decide (r < 0) = true := by simpa using hr0
            clear hr
            have hsz := L.out.only.size
            have SY := Lib.hid (Blk.new w5 75 #[.int .i64 x, .int .i64 y])
            have L2 := Lib.hid (L.out.alloc (.cells #[.int .i64 x, .int .i64 y] 75))
            go_wp2_with (at_builtin; refine app_part rfl _ _ rfl w.heap.size _ k xs rfl L2.out.own _ 1 [x, y] rfl (part_one SY.out) (by omega) (by simp; omega) ?_; intro v' w6 ho hg)
            have L3 := Lib.hid (show Lso w B g (N + 40 * j + 12) w6 v' (k + 1) (xs ++ [x, y]) from ⟨ho, L2.out.cur.grown hg (fun i hi => by have := (L2.out.own.lt i hi).1; omega), only_grown L2.out.only hg (fun i hi => .inr (L2.out.own.lt i hi).1)⟩)
            have hxl := L.out.len
            have hap := chN_app xs x y (j + 1) k hxl
            have hnx := chN_next xs j k
            have hle := chN_le xs (j + 1) k
            go_wp2_with fail
            go_roundw
            case rel => exact ⟨k + 1, j + 1, xs ++ [x, y], by go_num, by omega, by rw [hap]; split <;> omega, L3.out.le (by omega)⟩
            case measure => simp [intOf]; omega
          · have d4 : decide (r < 0) = false := by simpa using hr0
            have hle := chN_le xs (j + 1) k
            have hnx := chN_next xs j k
            go_wp2_with fail
            go_roundw
            case rel => exact ⟨k, j + 1, xs, by go_num, by omega, by omega, L.out.le (by omega)⟩
            case measure => simp [intOf]; omega
    · obtain rfl : k = n := by omega
      have d1 : decide ((k : Int) < (k : Int)) = false := by simp
      go_wp2_with fail
      go_ret
      exact ⟨_, xs, rfl, L.out.le (by omega)⟩
end Go.Proofs.Ytnlneblipedddaa
