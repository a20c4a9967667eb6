/- What is drawn for the laws on split carries, efforts, fewest carriers and dropped ranges. Condition: the code's bytes can be read. -/
import Derived.Test.YtamehlafmfmgmaaCarDraws
import Derived.Test.YtamehlafmfmgmaaCutFn2
import Derived.Test.YtamehlafmfmgmaaTake
namespace Go.Proofs.Ytamehlafmfmgmaa
open Go.RowKit

set_option maxHeartbeats 1000000 in
set_option maxRecDepth 100000 in
theorem DrawFewestCarriers_any (A : Option Addr) (n c : Nat) (w : World) (h : RdB w w.heap.size A n) (hn : n ≤ 9223372036854775807) :
    Calls Try.prog 22 #[.slice A n c] w fun e w' => ∃ p q r s : Int, e = .returned (.tuple #[.int .i64 p, .int .i64 q, .int .i64 r, .int .i64 s]) ∧ (-100000 ≤ p ∧ p ≤ 100000 ∧ -100000 ≤ q ∧ q ≤ 100000 ∧ -100000 ≤ r ∧ r ≤ 100000 ∧ -100000 ≤ s ∧ s ≤ 100000) ∧ Below w.heap.size w w' := by
  have C0 := Lib.hid (Cur.new w A n c h hn)
  have hlt : w.heap.size < (w.alloc (.cells #[.slice A n c, .int .i64 0, .int .u64 0] 66)).heap.size := by simp
  clear h hn
  have G0 := Lib.hid (World.grownBy.refl (w.alloc (.cells #[.slice A n c, .int .i64 0, .int .u64 0] 66)) (some w.heap.size))
  go_enter Try.func22, Try.ntmps22
  go_wp2_with fail
  refine (pick_any w.heap.size w.heap.size (0) 60 _ C0.out (by omega) (by omega)).mono ?_
  rintro e w1 ⟨a, a0, a1, rfl, hc, hg⟩
  replace C0 := Lib.hid hc
  replace G0 := Lib.hid (grow_trans G0.out hg)
  clear hc hg
  simp [pickHi] at a1
  have A5 := Lib.hid (Blk.new w1 3 (ints [-1, 999]).toArray)
  have hg5 := C0.out.lt
  replace C0 := Lib.hid (C0.out.alloc (.cells (ints [-1, 999]).toArray 3))
  replace G0 := Lib.hid (only_alloc G0.out (.cells (ints [-1, 999]).toArray 3))
  go_wp2_with fail
  refine (among_blk w.heap.size w.heap.size (2) w1.heap.size _ [-1, 999] (-1) 999 _ C0.out (by omega) hg5 A5.out (by simp) (by simp) (by simp; try omega)).mono ?_
  rintro e w2 ⟨b, b0, b1, rfl, hc, hg⟩
  replace C0 := Lib.hid hc
  replace G0 := Lib.hid (grow_trans G0.out hg)
  clear hc hg hg5 A5
  have A5 := Lib.hid (Blk.new w2 3 (ints [0, 5, a, b]).toArray)
  have hg5 := C0.out.lt
  replace C0 := Lib.hid (C0.out.alloc (.cells (ints [0, 5, a, b]).toArray 3))
  replace G0 := Lib.hid (only_alloc G0.out (.cells (ints [0, 5, a, b]).toArray 3))
  go_wp2_with fail
  refine (among_blk w.heap.size w.heap.size (4) w2.heap.size _ [0, 5, a, b] (-1) 999 _ C0.out (by omega) hg5 A5.out (by simp) (by simp) (by simp; try omega)).mono ?_
  rintro e w3 ⟨d, d0, d1, rfl, hc, hg⟩
  replace C0 := Lib.hid hc
  replace G0 := Lib.hid (grow_trans G0.out hg)
  clear hc hg hg5 A5
  have A5 := Lib.hid (Blk.new w3 3 (ints [0, 1, 9, 10, 40, 1000 - d, 1001 - d]).toArray)
  have hg5 := C0.out.lt
  replace C0 := Lib.hid (C0.out.alloc (.cells (ints [0, 1, 9, 10, 40, 1000 - d, 1001 - d]).toArray 3))
  replace G0 := Lib.hid (only_alloc G0.out (.cells (ints [0, 1, 9, 10, 40, 1000 - d, 1001 - d]).toArray 3))
  go_wp2_with fail
  refine (among_blk w.heap.size w.heap.size (6) w3.heap.size _ [0, 1, 9, 10, 40, 1000 - d, 1001 - d] 0 1002 _ C0.out (by omega) hg5 A5.out (by simp) (by simp) (by simp; try omega)).mono ?_
  rintro e w4 ⟨f, f0, f1, rfl, hc, hg⟩
  replace C0 := Lib.hid hc
  replace G0 := Lib.hid (grow_trans G0.out hg)
  clear hc hg hg5 A5
  have A5 := Lib.hid (Blk.new w4 3 (ints [0, 1000]).toArray)
  have hg5 := C0.out.lt
  replace C0 := Lib.hid (C0.out.alloc (.cells (ints [0, 1000]).toArray 3))
  replace G0 := Lib.hid (only_alloc G0.out (.cells (ints [0, 1000]).toArray 3))
  go_wp2_with fail
  refine (among_blk w.heap.size w.heap.size (8) w4.heap.size _ [0, 1000] 0 1000 _ C0.out (by omega) hg5 A5.out (by simp) (by simp) (by simp; try omega)).mono ?_
  rintro e w5 ⟨i, i0, i1, rfl, hc, hg⟩
  replace C0 := Lib.hid hc
  replace G0 := Lib.hid (grow_trans G0.out hg)
  clear hc hg hg5 A5
  have A5 := Lib.hid (Blk.new w5 3 (ints [1, 4, 5, 16, 999, i]).toArray)
  have hg5 := C0.out.lt
  replace C0 := Lib.hid (C0.out.alloc (.cells (ints [1, 4, 5, 16, 999, i]).toArray 3))
  replace G0 := Lib.hid (only_alloc G0.out (.cells (ints [1, 4, 5, 16, 999, i]).toArray 3))
  go_wp2_with fail
  refine (among_blk w.heap.size w.heap.size (10) w5.heap.size _ [1, 4, 5, 16, 999, i] 0 1000 _ C0.out (by omega) hg5 A5.out (by simp) (by simp) (by simp; try omega)).mono ?_
  rintro e w6 ⟨j, j0, j1, rfl, hc, hg⟩
  replace C0 := Lib.hid hc
  replace G0 := Lib.hid (grow_trans G0.out hg)
  clear hc hg hg5 A5
  have A5 := Lib.hid (Blk.new w6 3 (ints [-1, 1000]).toArray)
  have hg5 := C0.out.lt
  replace C0 := Lib.hid (C0.out.alloc (.cells (ints [-1, 1000]).toArray 3))
  replace G0 := Lib.hid (only_alloc G0.out (.cells (ints [-1, 1000]).toArray 3))
  go_wp2_with fail
  refine (among_blk w.heap.size w.heap.size (12) w6.heap.size _ [-1, 1000] (-1) 1000 _ C0.out (by omega) hg5 A5.out (by simp) (by simp) (by simp; try omega)).mono ?_
  rintro e w7 ⟨k, k0, k1, rfl, hc, hg⟩
  replace C0 := Lib.hid hc
  replace G0 := Lib.hid (grow_trans G0.out hg)
  clear hc hg hg5 A5
  have A5 := Lib.hid (Blk.new w7 3 (ints [0, 1, 4, 12, 40, 999, k]).toArray)
  have hg5 := C0.out.lt
  replace C0 := Lib.hid (C0.out.alloc (.cells (ints [0, 1, 4, 12, 40, 999, k]).toArray 3))
  replace G0 := Lib.hid (only_alloc G0.out (.cells (ints [0, 1, 4, 12, 40, 999, k]).toArray 3))
  go_wp2_with fail
  refine (among_blk w.heap.size w.heap.size (14) w7.heap.size _ [0, 1, 4, 12, 40, 999, k] (-1) 1000 _ C0.out (by omega) hg5 A5.out (by simp) (by simp) (by simp; try omega)).mono ?_
  rintro e w8 ⟨l, l0, l1, rfl, hc, hg⟩
  replace C0 := Lib.hid hc
  replace G0 := Lib.hid (grow_trans G0.out hg)
  clear hc hg hg5 A5
  go_wp2_with fail
  refine bodyPost_ret (results_tmp4 rfl _ _ _) rfl ?_
  exact ⟨d, d + f, j, l, rfl, by omega, below_cur _ G0.out⟩
set_option maxHeartbeats 2000000 in
set_option maxRecDepth 100000 in
theorem DrawSplitCarry_any (A : Option Addr) (n c : Nat) (w : World) (h : RdB w w.heap.size A n) (hn : n ≤ 9223372036854775807) :
    Calls Try.prog 12 #[.slice A n c] w fun e w' => ∃ u k xs i t p, e = .returned (.tuple #[u, .int .i64 i, .int .i64 t, .int .i64 p]) ∧ DrawnC w u k xs w' := by
  have C0 := Lib.hid (Cur.new w A n c h hn)
  have hlt : w.heap.size < (w.alloc (.cells #[.slice A n c, .int .i64 0, .int .u64 0] 66)).heap.size := by simp
  clear h hn
  go_enter Try.func12, Try.ntmps12
  go_wp2_with fail
  refine (anyCarries_any w.heap.size w.heap.size (0) _ C0.out (by omega)).mono ?_
  rintro e w1 ⟨u, k, xs, rfl, hk, hbd, hl⟩
  have HB := Lib.hid hbd
  have L0 := Lib.hid hl
  clear hbd hl C0
  obtain ⟨A, c, rfl⟩ := L0.out.form
  go_wp2_with fail
  refine (pick_any w.heap.size w.heap.size (10100) 16 _ L0.out.cur (by omega) (by omega)).mono ?_
  rintro e w2 ⟨a, a0, a1, rfl, hc, hg⟩
  replace L0 := Lib.hid (L0.out.ask hlt hc hg)
  clear hc hg
  simp [pickHi] at a1
  obtain ⟨b, eb⟩ : ∃ b, a / 15 = b := ⟨_, rfl⟩
  have b0 : 0 ≤ b ∧ b ≤ 1 := by omega
  go_wp2_with fail
  refine (pick_any w.heap.size w.heap.size (10102) ((k : Int) + b) _ L0.out.cur (by omega) (by omega)).mono ?_
  rintro e w3 ⟨d, d0, d1, rfl, hc, hg⟩
  replace L0 := Lib.hid (L0.out.ask hlt hc hg)
  clear hc hg
  have hph : pickHi ((k : Int) + b) ≤ 41 := by unfold pickHi; split <;> omega
  have d2 : d ≤ 41 := by omega
  clear d1 hph
  go_wp2_with fail
  refine (pick_any w.heap.size w.heap.size (10104) 24 _ L0.out.cur (by omega) (by omega)).mono ?_
  rintro e w4 ⟨f, f0, f1, rfl, hc, hg⟩
  replace L0 := Lib.hid (L0.out.ask hlt hc hg)
  clear hc hg
  simp [pickHi] at f1
  obtain ⟨b', eb'⟩ : ∃ b, f / 23 = b := ⟨_, rfl⟩
  have b0' : 0 ≤ b' ∧ b' ≤ 1 := by omega
  go_wp2_with fail
  refine (carryCount_any w.heap.size w.heap.size (10106) _ L0.out.cur (by omega)).mono ?_
  rintro e w5 ⟨t, ⟨t0, t1⟩, rfl, hc, hg⟩
  replace L0 := Lib.hid (L0.out.ask hlt hc hg)
  clear hc hg
  obtain ⟨i, ei⟩ : ∃ i, d - b' = i := ⟨_, rfl⟩
  have i0 : -1 ≤ i ∧ i ≤ 41 := by omega
  have p1 := fun W => l1In_any i 0 ((k : Int) - 1) W
  cases h1 : inB i 0 ((k : Int) - 1) with
  | false =>
    rw [h1] at p1
    have P1 := Lib.hid p1
    clear p1 h1
    go_wp2_with fail
    refine (P1.out _).mono ?_
    rintro e w' ⟨rfl, rfl⟩
    clear eb eb' b0 b0'
    replace L0 := Lib.hid (L0.out.le (M := 10120) (by omega))
    go_wp2_with fail
    refine (carrier_any w.heap.size w.heap.size (10120) _ L0.out.cur (by omega)).mono ?_
    rintro e w8 ⟨q, ⟨q0, q1⟩, rfl, hc, hg⟩
    replace L0 := Lib.hid (L0.out.ask hlt hc hg)
    clear hc hg
    go_wp2_with fail
    refine bodyPost_ret (results_tmp4 rfl _ _ _) rfl ?_
    exact ⟨_, k, xs, _, _, q, rfl, drawn_c L0.out hk HB.out⟩
  | true =>
    rw [h1] at p1
    have P1 := Lib.hid p1
    have hi := inB_yes h1
    clear p1 h1
    go_wp2_with fail
    refine (P1.out _).mono ?_
    rintro e w' ⟨rfl, rfl⟩
    go_wp2_with fail
    refine (one_any w.heap.size w.heap.size 10114 4 _ L0.out.cur (by omega) (by omega)).mono ?_
    rintro e w6 ⟨b6, rfl, hc, hg⟩
    replace L0 := Lib.hid (L0.out.ask hlt hc hg)
    clear hc hg
    cases b6 with
    | true =>
      clear eb eb' b0 b0'
      replace L0 := Lib.hid (L0.out.le (M := 10120) (by omega))
      go_wp2_with fail
      refine (carrier_any w.heap.size w.heap.size (10120) _ L0.out.cur (by omega)).mono ?_
      rintro e w8 ⟨q, ⟨q0, q1⟩, rfl, hc, hg⟩
      replace L0 := Lib.hid (L0.out.ask hlt hc hg)
      clear hc hg
      go_wp2_with fail
      refine bodyPost_ret (results_tmp4 rfl _ _ _) rfl ?_
      exact ⟨_, k, xs, _, _, q, rfl, drawn_c L0.out hk HB.out⟩
    | false =>
      obtain ⟨z, rfl⟩ := Int.eq_ofNat_of_zero_le hi.1
      have hzk : z < k := by omega
      obtain ⟨bl, rfl, hbl⟩ := own_at L0.out.own (by omega)
      have hxl := L0.out.len
      have hbd : -1 ≤ xs.getD (z * 4 + 2) 0 ∧ xs.getD (z * 4 + 2) 0 ≤ 1001 := HB.out _ (by
        have e : xs.getD (z * 4 + 2) 0 = xs[z * 4 + 2]'(by omega) := by simp [List.getD, show z * 4 + 2 < xs.length by omega]
        rw [e]; exact List.getElem_mem _)
      have c2 := (L0.out.own.cellAt (z * 4 + 2) (by omega)).trans (ints_get xs _ (by omega))
      obtain ⟨yf, eyf⟩ : ∃ a, xs.getD (z * 4 + 2) 0 = a := ⟨_, rfl⟩
      rw [eyf] at hbd c2
      have i1 : (0 : Int) ≤ (z : Int) := by omega
      have i2 : (z : Int) < (k : Int) := by omega
      clear eb eb' b0 b0' ei eyf
      go_wp2_with fail
      refine wp_region_held_drew (S := fun W => W.cell? ⟨bl, z * 4 + 2, none⟩ = some (.int .i64 yf)) (by kernel_rfl) c2 (fun hHeld => ?_)
      replace L0 := Lib.hid (L0.out.drewN 1)
      refine take_at (i := 0) (oi := _) 39 (v := .slice (some ⟨bl, 0, none⟩) k c) rfl rfl (by kernel_rfl) (by kernel_rfl) (by kernel_rfl) (fun _ _ _ h => h) (Or.inl ⟨by rfl, ?_⟩) hHeld ?_
      · (intro w hSw; (try dsimp only at hSw); go_split_ands; go_simp)
      simp only [List.setIfInBounds_toArray, List.set_cons_zero, List.set_cons_succ]
      refine take_at (i := 1) (oi := _) 40 (v := .int .i64 (z : Int)) rfl rfl (by kernel_rfl) (by kernel_rfl) (by kernel_rfl) (fun _ _ _ h => h) (Or.inl ⟨by rfl, ?_⟩) hHeld ?_
      · (intro w hSw; (try dsimp only at hSw); go_split_ands; go_simp)
      simp only [List.setIfInBounds_toArray, List.set_cons_zero, List.set_cons_succ]
      refine take_at (i := 2) (oi := _) 41 (v := .pointer (some ⟨bl, z * 4, none⟩)) rfl rfl (by kernel_rfl) (by kernel_rfl) (by kernel_rfl) (fun _ _ _ h => h) (Or.inl ⟨by rfl, ?_⟩) hHeld ?_
      · (intro w hSw; (try dsimp only at hSw); go_split_ands; go_simp)
      simp only [List.setIfInBounds_toArray, List.set_cons_zero, List.set_cons_succ]
      refine take_at (i := 3) (oi := _) 42 (v := .pointer (some ⟨bl, z * 4 + 2, none⟩)) rfl rfl (by kernel_rfl) (by kernel_rfl) (by kernel_rfl) (fun _ _ _ h => h) (Or.inl ⟨by rfl, ?_⟩) hHeld ?_
      · (intro w hSw; (try dsimp only at hSw); go_split_ands; go_simp)
      simp only [List.setIfInBounds_toArray, List.set_cons_zero, List.set_cons_succ]
      refine take_at (i := 4) (oi := _) 43 (v := .int .i64 yf) rfl rfl (by kernel_rfl) (by kernel_rfl) (by kernel_rfl) (fun _ _ _ h => h) (Or.inl ⟨by rfl, ?_⟩) hHeld ?_
      · (intro w hSw; (try dsimp only at hSw); go_split_ands; go_simp)
      simp only [List.setIfInBounds_toArray, List.set_cons_zero, List.set_cons_succ]
      refine take_at (i := 5) (oi := _) 44 (v := .pointer (some ⟨w.heap.size, 0, none⟩)) rfl rfl (by kernel_rfl) (by kernel_rfl) (by kernel_rfl) (fun _ _ _ h => h) (Or.inl ⟨by rfl, ?_⟩) hHeld ?_
      · (intro w hSw; (try dsimp only at hSw); go_split_ands; go_simp)
      simp only [List.setIfInBounds_toArray, List.set_cons_zero, List.set_cons_succ]
      refine wpAnyH_ready (rs := [6]) (by kernel_rfl) (by simp) ?_
      refine AllReadyH.cons (o := _) rfl (fun K9 hK => ?_) AllReadyH.nil
      go_simp
      refine (pick_any w.heap.size w.heap.size 10116 9 _ L0.out.cur (by omega) (by omega)).mono ?_
      rintro e w7 ⟨m, m0, m1, rfl, hc, hg⟩
      simp [pickHi] at m1
      replace L0 := Lib.hid (L0.out.ask hlt hc hg)
      have c3 : w7.cell? ⟨bl, z * 4 + 2, none⟩ = some (.int .i64 yf) := (World.cell?_of_block (hg.block bl (block_lt_of_cell (a := ⟨bl, z * 4 + 2, none⟩) hHeld) (by intro e; injection e with e; simp at hbl; omega))).trans hHeld
      refine hK.out _ _ c3 (fun hHeld => ?_)
      clear hK K9 hc hg c2 c3
      have x5 := IntWalk.i64_in (yf + m) (by omega)
      refine take_at (i := 7) (oi := _) 46 (v := .int .i64 (yf + m)) rfl rfl (by kernel_rfl) (by kernel_rfl) (by kernel_rfl) (fun _ _ _ h => h) (Or.inl ⟨by rfl, ?_⟩) hHeld ?_
      · (intro w hSw; (try dsimp only at hSw); go_split_ands; go_simp)
      simp only [List.setIfInBounds_toArray, List.set_cons_zero, List.set_cons_succ]
      refine wpAnyH_ready (rs := [8]) (by kernel_rfl) (by simp) ?_
      refine AllReadyH.cons (o := _) rfl (fun K9 hK => ?_) AllReadyH.nil
      go_simp
      refine hK.out _ _ hHeld (fun hHeld => ?_)
      clear hK K9
      refine wpAnyH_done (by kernel_rfl) ?_ _
      clear hHeld hxl x5
      go_wp2_with fail
      refine (carrier_any w.heap.size w.heap.size (10118) _ L0.out.cur (by omega)).mono ?_
      rintro e w8 ⟨q, ⟨q0, q1⟩, rfl, hc, hg⟩
      replace L0 := Lib.hid (L0.out.ask hlt hc hg)
      clear hc hg
      go_wp2_with fail
      refine bodyPost_ret (results_tmp4 rfl _ _ _) rfl ?_
      exact ⟨_, k, xs, _, _, q, rfl, drawn_c L0.out hk HB.out⟩
set_option maxHeartbeats 2000000 in
set_option maxRecDepth 100000 in
theorem DrawEffortOf_any (A : Option Addr) (n c : Nat) (w : World) (h : RdB w w.heap.size A n) (hn : n ≤ 9223372036854775807) :
    Calls Try.prog 19 #[.slice A n c] w fun e w' => ∃ u k xs v m ys p, e = .returned (.tuple #[u, v, .int .i64 p]) ∧ m ≤ 10 ∧ w'.ownsRow w.heap.size 3 1 v m (ints ys) ∧ DrawnC w u k xs w' := by
  have C0 := Lib.hid (Cur.new w A n c h hn)
  have hlt : w.heap.size < (w.alloc (.cells #[.slice A n c, .int .i64 0, .int .u64 0] 66)).heap.size := by simp
  clear h hn
  obtain ⟨a, ea⟩ : ∃ a, w.alloc (.cells #[.slice A n c, .int .i64 0, .int .u64 0] 66) = a := ⟨_, rfl⟩
  have EA := Lib.hid ea
  rw [ea] at C0 hlt
  have hza := Lib.hid (show w.heap.size ≤ a.heap.size from Nat.le_of_lt hlt)
  go_enter Try.func19, Try.ntmps19
  go_wp2_with fail
  try rw [ea]
  clear ea
  refine (pick_any w.heap.size w.heap.size 0 24 _ C0.out (by omega) (by omega)).mono ?_
  rintro e w1 ⟨x, x0, x1, rfl, hc, hg⟩
  simp [pickHi] at x1
  have V0 := Lib.hid ((Ln.start C0.out).ask hlt hc hg)
  clear hc hg C0
  obtain ⟨m, em⟩ : ∃ m : Nat, 9 + x / 23 = (m : Int) := ⟨(9 + x / 23).toNat, by omega⟩
  have hm9 : 9 ≤ m := by omega
  have hm10 : m ≤ 10 := by omega
  go_wp2_with fail
  go_loopw [6] (fun u wr => ∃ (k : Nat) (c : Nat) (A : Option Addr) (ys : List Int), u = .slice A k c ∧ k ≤ m ∧ Ln a w.heap.size w.heap.size (2 + 10 * k) wr (.slice A k c) k ys) (fun u _ => match u with | .slice _ k _ => 10 - k | _ => 0)
  case atStart => exact ⟨0, 0, none, [], rfl, by omega, V0.out⟩
  case round =>
    clear V0 em
    obtain ⟨k, c, A, ys, rfl, hk, hl⟩ := hrel
    have V := Lib.hid hl
    clear hl
    by_cases hlm : k < m
    · have d1 : decide ((k : Int) < (m : Int)) = true := by simp; omega
      go_wp2_with fail
      refine (pick_any w.heap.size w.heap.size (2 + 10 * k) 50 _ V.out.cur (by omega) (by omega)).mono ?_
      rintro e w5 ⟨y, y0, y1, rfl, hc, hg⟩
      simp [pickHi] at y1
      replace V := Lib.hid (V.out.ask hlt hc hg)
      clear hc hg
      have A5 := Lib.hid (Blk.new w5 3 (ints [0, 1, 5, 100, y]).toArray)
      have V5 := Lib.hid (V.out.alloc (.cells (ints [0, 1, 5, 100, y]).toArray 3))
      go_wp2_with fail
      refine (among_blk _ _ (2 + 10 * k + 2) w5.heap.size _ [0, 1, 5, 100, y] 0 100 _ V5.out.cur (by omega) V.out.cur.lt A5.out (by simp) (by simp) (by simp; omega)).mono ?_
      rintro e w6 ⟨z, z0, z1, rfl, hc, hg⟩
      have V6 := Lib.hid (V5.out.ask hlt hc hg)
      clear hc hg V5 V A5
      have HO := Lib.hid (V6.out.own.alloc (.cells #[.int .i64 z] 3))
      have n0 := (Blk.new w6 3 #[.int .i64 z]).c1
      have hsz := V6.out.only.size
      go_wp2_with (at_builtin; refine app_int rfl _ _ rfl a.heap.size _ k _ rfl HO.out w6.heap.size z rfl n0 (by omega) (by simp; omega) ?_; intro v' w10 ho hg)
      have V7 := Lib.hid ((V6.out.app _ ho hlt hg).le (show 2 + 10 * k + 2 + 2 ≤ 2 + 10 * (k + 1) by omega))
      obtain ⟨A7, c7, rfl⟩ := V7.out.form
      clear ho hg n0
      go_wp2_with fail
      go_roundw
      case rel => exact ⟨k + 1, _, _, _, rfl, by omega, V7.out⟩
      case measure => simp; omega
    · obtain rfl : k = m := by omega
      have d1 : decide ((k : Int) < (k : Int)) = false := by simp
      obtain ⟨g1, rfl, hge⟩ := own_start V.out.own (by omega)
      go_wp2_with fail
      refine (one_any _ _ (2 + 10 * k) 24 _ V.out.cur (by omega) (by omega)).mono ?_
      rintro e w5 ⟨t, rfl, hc, hg⟩
      have V5 := Lib.hid (V.out.ask hlt hc hg)
      clear hc hg V
      cases t with
      | false =>
        have hlt5 := V5.out.cur.lt
        go_wp2_with fail
        refine (anyCarries_any w.heap.size w.heap.size (2 + 10 * k + 2) _ V5.out.cur (by omega)).mono ?_
        rintro e w6 ⟨u, q, xs, rfl, hq, hbd, hl⟩
        have HB := Lib.hid hbd
        have VO := Lib.hid (own_ask V5.out.own hlt hl.only)
        have HG := Lib.hid (grow_trans V5.out.only hl.only)
        have hz5 := Lib.hid V5.out.only.size
        have L0 := Lib.hid hl
        clear hl hbd V5
        go_wp2_with fail
        refine (carrier_any _ _ (2 + 10 * k + 2 + 10100) _ L0.out.cur (by omega)).mono ?_
        rintro e w7 ⟨p, _, rfl, hc, hg⟩
        replace L0 := Lib.hid (L0.out.ask hlt5 hc hg)
        replace VO := Lib.hid (own_ask VO.out hlt hg)
        replace HG := Lib.hid (grow_trans HG.out hg)
        clear hc hg
        go_wp2_with fail
        go_ret3
        exact ⟨u, q, xs, _, k, ys, p, rfl, hm10, own_base VO.out hza.out, hq, HB.out, own_base L0.out.own (Nat.le_trans hza.out hz5.out), by have := HG.out; rw [← EA.out] at this; exact below_cur _ this⟩
      | true =>
        have A6 := Lib.hid (Blk.new w5 3 (ints [-1, 101]).toArray)
        have V69 := Lib.hid (V5.out.alloc (.cells (ints [-1, 101]).toArray 3))
        go_wp2_with fail
        refine (among_blk _ _ (2 + 10 * k + 2) w5.heap.size _ [-1, 101] (-1) 101 _ V69.out.cur (by omega) V5.out.cur.lt A6.out (by simp) (by simp) (by simp)).mono ?_
        rintro e w6 ⟨z, z0, z1, rfl, hc, hg⟩
        have V6 := Lib.hid (V69.out.ask hlt hc hg)
        clear hc hg V69 V5 A6
        have hl := V6.out.len
        have s0 := (V6.out.own.cellAt 0 (by omega)).trans (ints_get _ _ (by omega))
        have f0 : w6.frozen? ⟨g1, 0, none⟩ = false := V6.out.own.frozenAt _
        have hown2 := (V6.out.own.stored 0 (.int .i64 z)).1
        rw [ints_set] at hown2
        have V7 := Lib.hid (show Ln a w.heap.size w.heap.size (2 + 10 * k + 2 + 2) (w6.setCell ⟨g1, 0, none⟩ (.int .i64 z)) (.slice (some ⟨g1, 0, none⟩) k c) k (ys.set 0 z) from
          ⟨hown2, V6.out.cur.setCell (p := ⟨g1, 0, none⟩) (by show w.heap.size < g1; omega) (.int .i64 z), only_set (p := ⟨g1, 0, none⟩) V6.out.only hge (.int .i64 z)⟩)
        clear hown2 V6 hl
        have hlt5 := V7.out.cur.lt
        go_wp2_with fail
        refine (anyCarries_any w.heap.size w.heap.size (2 + 10 * k + 2 + 2) _ V7.out.cur (by omega)).mono ?_
        rintro e w7 ⟨u, q, xs, rfl, hq, hbd, hl⟩
        have HB := Lib.hid hbd
        have VO := Lib.hid (own_ask V7.out.own hlt hl.only)
        have HG := Lib.hid (grow_trans V7.out.only hl.only)
        have hz5 := Lib.hid V7.out.only.size
        have L0 := Lib.hid hl
        clear hl hbd V7
        go_wp2_with fail
        refine (carrier_any _ _ (2 + 10 * k + 2 + 2 + 10100) _ L0.out.cur (by omega)).mono ?_
        rintro e w8 ⟨p, _, rfl, hc, hg⟩
        replace L0 := Lib.hid (L0.out.ask hlt5 hc hg)
        replace VO := Lib.hid (own_ask VO.out hlt hg)
        replace HG := Lib.hid (grow_trans HG.out hg)
        clear hc hg
        go_wp2_with fail
        go_ret3
        exact ⟨u, q, xs, _, k, _, p, rfl, hm10, own_base VO.out hza.out, hq, HB.out, own_base L0.out.own (Nat.le_trans hza.out hz5.out), by have := HG.out; rw [← EA.out] at this; exact below_cur _ this⟩
end Go.Proofs.Ytamehlafmfmgmaa
