/- Two drawn charts. Condition: the source's bytes can be read. -/
import Derived.Test.YtnlneblipedddaaPFnTransitions43
import Derived.Test.YtnlneblipedddaaPFnTransitions23
import Derived.Test.YtnlneblipedddaaPFnTransitions11
namespace Go.Proofs.Ytnlneblipedddaa
open Go.RowKit

/-- Two lists of spots, owned from the world a on, in the midst of a draw. -/
structure Two (a : World) (B g N : Nat) (W : World) (u : Value) (n : Nat) (xs : List Int) (v : Value) (m : Nat) (ys : List Int) : Prop where
  fst : W.ownsRow a.heap.size 75 2 u n (ints xs)
  snd : W.ownsRow a.heap.size 75 2 v m (ints ys)
  cur : Cur W B g N
  only : a.grownBy W (some g)
set_option maxRecDepth 100000 in
set_option maxHeartbeats 4000000 in
theorem formsTwo_any (B g N : Nat) (w : World) (h : Cur w B g N) (hN : N ≤ 100000) : Calls Try.prog 63 #[.pointer (some ⟨g, 0, none⟩)] w fun e w' =>
    ∃ (n m : Nat) (u v : Value) (xs ys : List Int), n ≤ 13 ∧ m ≤ 13 ∧ e = .returned (.tuple #[u, v]) ∧ w'.ownsRow w.heap.size 75 2 u n (ints xs) ∧ w'.ownsRow w.heap.size 75 2 v m (ints ys) ∧ Cur w' B g (N + 100000) ∧ w.grownBy w' (some g) := by
  have hlt := h.lt
  have C0 := Lib.hid h
  clear h
  go_enter Try.func63, Try.ntmps63
  go_wp2_with fail
  refine (anyChart_any B g N _ C0.out (by omega)).mono ?_
  rintro e w1 ⟨n, u, xs, hn, rfl, hl⟩
  obtain ⟨A, c, rfl⟩ := hl.form
  have hlt1 := hl.cur.lt
  have HW1 := Lib.hid hl.only.size
  have HG1 := Lib.hid hl.only
  have HA := Lib.hid hl.own
  have HAB := Lib.hid (fun k hk => (hl.own.lt k hk).2)
  have HC := Lib.hid hl.cur
  clear hl C0
  go_wp2_with fail
  refine (l1Most_q 1 (n : Int) _).mono ?_
  rintro e w' ⟨rfl, rfl⟩
  obtain ⟨m, hm, hmn⟩ : ∃ m : Nat, max 1 (n : Int) = (m : Int) ∧ (m = n ∨ n = 0 ∧ m = 1) := by
    rcases Nat.eq_zero_or_pos n with h | h
    · exact ⟨1, by omega, .inr ⟨h, rfl⟩⟩
    · exact ⟨n, by omega, .inl rfl⟩
  rw [hm]
  clear hm
  replace hm : m ≤ 13 := by omega
  go_wp2_with fail
  refine (chartOf_any B g (N + 30000) m hm _ HC.out (by omega)).mono ?_
  rintro e w2 ⟨v, ys, rfl, hl⟩
  replace HA := Lib.hid (own_ask HA.out hlt hl.only)
  obtain ⟨Av, cv, rfl⟩ := hl.form
  have L := Lib.hid hl
  clear hl HC
  go_wp2_with fail
  refine (pick_any B g (N + 30000 + 10000) 8 _ L.out.cur (by omega) (by omega)).mono ?_
  rintro e w3 ⟨x, x0, x1, rfl, hc, hg⟩
  simp [pickHi] at x1
  replace L := Lib.hid (L.out.ask hlt1 hc hg)
  replace HA := Lib.hid (own_ask HA.out hlt hg)
  clear hc hg
  by_cases e0 : x = 0
  · subst e0
    have HL := Lib.hid L.out.only
    go_wp2_with fail
    refine (chartOf_any B g (N + 30000 + 10000 + 2) m hm _ L.out.cur (by omega)).mono ?_
    rintro e w4 ⟨v2, zs, rfl, hl⟩
    replace HA := Lib.hid (own_ask HA.out hlt hl.only)
    obtain ⟨A2, c2, rfl⟩ := hl.form
    have L2 := Lib.hid (hl.since HL.out)
    clear hl L HL
    go_wp2_with fail
    go_loopw [25] (fun i wr => ∃ (k : Nat) (zs : List Int), k ≤ m ∧ i = .int .i64 k ∧ Lso w1 B g (N + 60000 + 2 * k) wr (.slice A2 m c2) m zs ∧ wr.ownsRow w.heap.size 75 2 (.slice A n c) n (ints xs)) (fun i _ => m - (intOf i).toNat)
    case atStart => exact ⟨0, zs, by omega, rfl, L2.out.le (by omega), HA.out⟩
    case round =>
      clear L2 HA
      obtain ⟨k, zs, hk, rfl, hl, ha⟩ := hrel
      have L2 := Lib.hid hl
      have HA := Lib.hid ha
      clear hl ha
      by_cases hlk : k < m
      · obtain ⟨bl, rfl, hbl⟩ := own_at L2.out.own (by omega)
        have hxl := L2.out.len
        have p0 := (L2.out.own.cellAt (k * 2) (by omega)).trans (ints_get zs _ (by omega))
        obtain ⟨y, ey⟩ : ∃ q, zs.getD (k * 2) 0 = q := ⟨_, rfl⟩
        rw [ey] at p0
        have i1 : (0 : Int) ≤ (k : Int) := by omega
        have i2 : (k : Int) < (m : Int) := by omega
        have HBL := Lib.hid hbl
        clear ey hbl
        go_wp2_with fail
        refine wp_region_held_drew (S := fun _ => True) (by kernel_rfl) trivial (fun hHeld => ?_)
        replace L2 := Lib.hid (L2.out.drewN 1)
        replace HA := Lib.hid (own_drewN HA.out 1)
        refine take_at (i := 0) (oi := _) 28 (v := .slice (some ⟨bl, 0, none⟩) m c2) rfl rfl (by kernel_rfl) (by kernel_rfl) (by kernel_rfl) (fun _ _ _ h => h) (Or.inl ⟨by rfl, ?_⟩) hHeld ?_
        · (intro w hSw; (try dsimp only at hSw); go_split_ands; go_simp)
        simp only [List.setIfInBounds_toArray, List.set_cons_zero, List.set_cons_succ]
        refine take_at (i := 1) (oi := _) 29 (v := .int .i64 (k : Int)) rfl rfl (by kernel_rfl) (by kernel_rfl) (by kernel_rfl) (fun _ _ _ h => h) (Or.inl ⟨by rfl, ?_⟩) hHeld ?_
        · (intro w hSw; (try dsimp only at hSw); go_split_ands; go_simp)
        simp only [List.setIfInBounds_toArray, List.set_cons_zero, List.set_cons_succ]
        refine take_at (i := 2) (oi := _) 30 (v := .slice (some ⟨bl, 0, none⟩) m c2) rfl rfl (by kernel_rfl) (by kernel_rfl) (by kernel_rfl) (fun _ _ _ h => h) (Or.inl ⟨by rfl, ?_⟩) hHeld ?_
        · (intro w hSw; (try dsimp only at hSw); go_split_ands; go_simp)
        simp only [List.setIfInBounds_toArray, List.set_cons_zero, List.set_cons_succ]
        refine take_at (i := 3) (oi := _) 31 (v := .int .i64 (k : Int)) rfl rfl (by kernel_rfl) (by kernel_rfl) (by kernel_rfl) (fun _ _ _ h => h) (Or.inl ⟨by rfl, ?_⟩) hHeld ?_
        · (intro w hSw; (try dsimp only at hSw); go_split_ands; go_simp)
        simp only [List.setIfInBounds_toArray, List.set_cons_zero, List.set_cons_succ]
        refine take_at (i := 4) (oi := _) 32 (v := .pointer (some ⟨bl, k * 2, none⟩)) rfl rfl (by kernel_rfl) (by kernel_rfl) (by kernel_rfl) (fun _ _ _ h => h) (Or.inl ⟨by rfl, ?_⟩) hHeld ?_
        · (intro w hSw; (try dsimp only at hSw); go_split_ands; go_simp)
        simp only [List.setIfInBounds_toArray, List.set_cons_zero, List.set_cons_succ]
        refine take_at (i := 5) (oi := _) 33 (v := .pointer (some ⟨bl, k * 2, none⟩)) rfl rfl (by kernel_rfl) (by kernel_rfl) (by kernel_rfl) (fun _ _ _ h => h) (Or.inl ⟨by rfl, ?_⟩) hHeld ?_
        · (intro w hSw; (try dsimp only at hSw); go_split_ands; go_simp)
        simp only [List.setIfInBounds_toArray, List.set_cons_zero, List.set_cons_succ]
        refine take_at (i := 7) (oi := _) 35 (v := .pointer (some ⟨g, 0, none⟩)) rfl rfl (by kernel_rfl) (by kernel_rfl) (by kernel_rfl) (fun _ _ _ h => h) (Or.inl ⟨by rfl, ?_⟩) hHeld ?_
        · (intro w hSw; (try dsimp only at hSw); go_split_ands; go_simp)
        simp only [List.setIfInBounds_toArray, List.set_cons_zero, List.set_cons_succ]
        refine wpAnyH_ready (rs := [6, 8]) (by kernel_rfl) (by simp) ?_
        refine AllReadyH.cons (o := _) rfl (fun K9 hK => ?_) (AllReadyH.cons (o := _) rfl (fun K9 hK => ?_) AllReadyH.nil)
        · go_simp
          refine hK.out _ _ trivial (fun hHeld => ?_)
          clear hK K9
          try simp only [Act.put, List.setIfInBounds_toArray, List.set_cons_zero, List.set_cons_succ]
          refine wpAnyH_ready (rs := [8]) (by kernel_rfl) (by simp) ?_
          refine AllReadyH.cons (o := _) rfl (fun K9 hK => ?_) AllReadyH.nil
          go_simp
          refine (pick_any B g (N + 60000 + 2 * k) 2 _ L2.out.cur (by omega) (by omega)).mono ?_
          rintro e w7 ⟨q, q0, q1, rfl, hc, hg⟩
          have c3 : w7.cell? ⟨bl, k * 2, none⟩ = some (.int .i64 y) := (World.cell?_of_block (hg.block bl (block_lt_of_cell (a := ⟨bl, k * 2, none⟩) p0) (by intro e; injection e with e; have := HBL.out; omega))).trans p0
          replace L2 := Lib.hid (L2.out.ask hlt1 hc hg)
          replace HA := Lib.hid (own_ask HA.out hlt hg)
          refine hK.out _ _ trivial (fun hHeld => ?_)
          clear hK K9 hc hg q0 q1
          try simp only [Act.put, List.setIfInBounds_toArray, List.set_cons_zero, List.set_cons_succ]
          obtain ⟨s, es⟩ : ∃ s, IntKind.i64.wrap (y + q) = s := ⟨_, rfl⟩
          refine take_at (i := 9) (oi := _) 37 (v := .int .i64 s) rfl rfl (by kernel_rfl) (by kernel_rfl) (by kernel_rfl) (fun _ _ _ h => h) (Or.inl ⟨by rfl, ?_⟩) hHeld ?_
          · (intro w hSw; (try dsimp only at hSw); go_split_ands; go_simp)
          simp only [List.setIfInBounds_toArray, List.set_cons_zero, List.set_cons_succ]
          clear es
          refine wpAnyH_ready (rs := [10]) (by kernel_rfl) (by simp) ?_
          refine AllReadyH.cons (o := _) rfl (fun K9 hK => ?_) AllReadyH.nil
          go_simp
          refine (l1Least_any 1280 s _).mono ?_
          rintro e w' ⟨rfl, rfl⟩
          refine hK.out _ _ trivial (fun hHeld => ?_)
          clear hK K9
          try simp only [Act.put, List.setIfInBounds_toArray, List.set_cons_zero, List.set_cons_succ]
          refine take_at (i := 11) (oi := _) 39 (v := .pointer (some ⟨bl, k * 2, none⟩)) rfl rfl (by kernel_rfl) (by kernel_rfl) (by kernel_rfl) (fun _ _ _ h => h) (Or.inl ⟨by rfl, ?_⟩) hHeld ?_
          · (intro w hSw; (try dsimp only at hSw); go_split_ands; go_simp)
          simp only [List.setIfInBounds_toArray, List.set_cons_zero, List.set_cons_succ]
          refine take_at (i := 12) (oi := _) 40 (v := .pointer (some ⟨bl, k * 2, none⟩)) rfl rfl (by kernel_rfl) (by kernel_rfl) (by kernel_rfl) (fun _ _ _ h => h) (Or.inl ⟨by rfl, ?_⟩) hHeld ?_
          · (intro w hSw; (try dsimp only at hSw); go_split_ands; go_simp)
          simp only [List.setIfInBounds_toArray, List.set_cons_zero, List.set_cons_succ]
          have f0 := L2.out.own.frozenAt (k * 2)
          have L3 := Lib.hid (L2.out.store (i := k * 2) (v := min 1280 s) hlt1)
          have HA3 := Lib.hid (own_kept HA.out (only_st _ bl (k * 2) (.int .i64 (min 1280 s))) (fun j hj => by have := HAB.out j hj; have := HBL.out; omega))
          refine wpAnyH_ready (rs := [13]) (by kernel_rfl) (by simp) ?_
          refine AllReadyH.cons (o := _) rfl (fun K9 hK => ?_) AllReadyH.nil
          go_simp
          refine hK.out _ _ trivial (fun hHeld => ?_)
          clear hK K9
          refine wpAnyH_done (by kernel_rfl) ?_ _
          go_wp2_with fail
          go_roundw
          case rel => exact ⟨k + 1, _, by omega, by go_num, L3.out.le (by omega), HA3.out⟩
          case measure => simp [intOf]; omega
        · go_simp
          refine (pick_any B g (N + 60000 + 2 * k) 2 _ L2.out.cur (by omega) (by omega)).mono ?_
          rintro e w7 ⟨q, q0, q1, rfl, hc, hg⟩
          have c3 : w7.cell? ⟨bl, k * 2, none⟩ = some (.int .i64 y) := (World.cell?_of_block (hg.block bl (block_lt_of_cell (a := ⟨bl, k * 2, none⟩) p0) (by intro e; injection e with e; have := HBL.out; omega))).trans p0
          replace L2 := Lib.hid (L2.out.ask hlt1 hc hg)
          replace HA := Lib.hid (own_ask HA.out hlt hg)
          refine hK.out _ _ trivial (fun hHeld => ?_)
          clear hK K9 hc hg q0 q1
          try simp only [Act.put, List.setIfInBounds_toArray, List.set_cons_zero, List.set_cons_succ]
          refine wpAnyH_ready (rs := [6]) (by kernel_rfl) (by simp) ?_
          refine AllReadyH.cons (o := _) rfl (fun K9 hK => ?_) AllReadyH.nil
          go_simp
          refine hK.out _ _ trivial (fun hHeld => ?_)
          clear hK K9
          try simp only [Act.put, List.setIfInBounds_toArray, List.set_cons_zero, List.set_cons_succ]
          obtain ⟨s, es⟩ : ∃ s, IntKind.i64.wrap (y + q) = s := ⟨_, rfl⟩
          refine take_at (i := 9) (oi := _) 37 (v := .int .i64 s) rfl rfl (by kernel_rfl) (by kernel_rfl) (by kernel_rfl) (fun _ _ _ h => h) (Or.inl ⟨by rfl, ?_⟩) hHeld ?_
          · (intro w hSw; (try dsimp only at hSw); go_split_ands; go_simp)
          simp only [List.setIfInBounds_toArray, List.set_cons_zero, List.set_cons_succ]
          clear es
          refine wpAnyH_ready (rs := [10]) (by kernel_rfl) (by simp) ?_
          refine AllReadyH.cons (o := _) rfl (fun K9 hK => ?_) AllReadyH.nil
          go_simp
          refine (l1Least_any 1280 s _).mono ?_
          rintro e w' ⟨rfl, rfl⟩
          refine hK.out _ _ trivial (fun hHeld => ?_)
          clear hK K9
          try simp only [Act.put, List.setIfInBounds_toArray, List.set_cons_zero, List.set_cons_succ]
          refine take_at (i := 11) (oi := _) 39 (v := .pointer (some ⟨bl, k * 2, none⟩)) rfl rfl (by kernel_rfl) (by kernel_rfl) (by kernel_rfl) (fun _ _ _ h => h) (Or.inl ⟨by rfl, ?_⟩) hHeld ?_
          · (intro w hSw; (try dsimp only at hSw); go_split_ands; go_simp)
          simp only [List.setIfInBounds_toArray, List.set_cons_zero, List.set_cons_succ]
          refine take_at (i := 12) (oi := _) 40 (v := .pointer (some ⟨bl, k * 2, none⟩)) rfl rfl (by kernel_rfl) (by kernel_rfl) (by kernel_rfl) (fun _ _ _ h => h) (Or.inl ⟨by rfl, ?_⟩) hHeld ?_
          · (intro w hSw; (try dsimp only at hSw); go_split_ands; go_simp)
          simp only [List.setIfInBounds_toArray, List.set_cons_zero, List.set_cons_succ]
          have f0 := L2.out.own.frozenAt (k * 2)
          have L3 := Lib.hid (L2.out.store (i := k * 2) (v := min 1280 s) hlt1)
          have HA3 := Lib.hid (own_kept HA.out (only_st _ bl (k * 2) (.int .i64 (min 1280 s))) (fun j hj => by have := HAB.out j hj; have := HBL.out; omega))
          refine wpAnyH_ready (rs := [13]) (by kernel_rfl) (by simp) ?_
          refine AllReadyH.cons (o := _) rfl (fun K9 hK => ?_) AllReadyH.nil
          go_simp
          refine hK.out _ _ trivial (fun hHeld => ?_)
          clear hK K9
          refine wpAnyH_done (by kernel_rfl) ?_ _
          go_wp2_with fail
          go_roundw
          case rel => exact ⟨k + 1, _, by omega, by go_num, L3.out.le (by omega), HA3.out⟩
          case measure => simp [intOf]; omega
      · obtain rfl : k = m := by omega
        have HF := Lib.hid (own_base (base' := w.heap.size) L2.out.own HW1.out)
        have HC := Lib.hid (L2.out.cur.le (show N + 60000 + 2 * k ≤ N + 100000 by omega))
        have HO := Lib.hid (grow_trans HG1.out L2.out.only)
        go_wp2_with fail
        go_ret2
        exact ⟨n, _, _, _, _, _, hn, hm, rfl, HA.out, HF.out, HC.out, HO.out⟩
  · have n0 : (x == 0) = false := by simpa using e0
    by_cases e1 : x = 1
    · subst e1
      have P := chGood_any _ n _ xs _ (own_cap HA.out) (Rd.of_own HA.out) (Nat.le_refl _) (by omega)
      have hch := chB_spot (n := n) (xs := xs)
      cases hb1 : chB n xs with
      | false =>
        rw [hb1] at P
        clear hch hb1
        go_wp2_with fail
        refine P.mono ?_
        rintro e w4 ⟨rfl, hb⟩
        replace HA := Lib.hid (own_below HA.out hb (Nat.le_refl _))
        replace L := Lib.hid (L.out.below hb)
        clear hb P
        have HF := Lib.hid (own_base (base' := w.heap.size) L.out.own HW1.out)
        have HC := Lib.hid (L.out.cur.le (M := N + 100000) (by omega))
        have HO := Lib.hid (grow_trans HG1.out L.out.only)
        go_wp2_with fail
        go_ret2
        exact ⟨n, _, _, _, _, _, hn, hm, rfl, HA.out, HF.out, HC.out, HO.out⟩
      | true =>
        rw [hb1] at P
        obtain ⟨⟨hn0, -⟩, -⟩ := hch hb1
        obtain rfl : m = n := by omega
        have HCB := Lib.hid hb1
        clear hch hb1 hmn
        go_wp2_with fail
        refine P.mono ?_
        rintro e w4 ⟨rfl, hb⟩
        replace HA := Lib.hid (own_below HA.out hb (Nat.le_refl _))
        replace L := Lib.hid (L.out.below hb)
        clear hb P
        go_wp2_with fail
        refine (chOwn_any _ _ m xs _ HA.out (by omega)).mono ?_
        rintro e w5 ⟨v5, rfl, ho, hb⟩
        obtain ⟨A5, c5, rfl⟩ := (Rd.of_own ho).form
        have hz := HG1.out.size
        have hz2 := L.out.only.size
        have HO5 := Lib.hid (own_base (base' := w.heap.size) ho (by omega))
        replace HA := Lib.hid (own_below HA.out hb (Nat.le_refl _))
        replace L := Lib.hid (L.out.below hb)
        clear hb ho
        by_cases h1 : 1 < m
        · have i1 : (1 : Int) < (m : Int) := by omega
          have i2 : (m : Int) - 1 = ((m - 1 : Nat) : Int) := by omega
          have i3 := IntWalk.i64_in ((m - 1 : Nat) : Int) (by omega)
          have PS := Lib.hid (SwapPerformers_ends _ _ m xs _ HO5.out (by omega) (by omega) HCB.out)
          clear HO5
          obtain ⟨z, ez⟩ : ∃ z, m - 1 = z := ⟨_, rfl⟩
          rw [ez] at i2 i3 PS
          clear ez
          go_wp2_with fail
          refine PS.out.mono ?_
          rintro e w6 ⟨v6, zs, rfl, ho, hb⟩
          obtain ⟨A6, c6, rfl⟩ := (Rd.of_own ho).form
          have hz := HG1.out.size
          have hz2 := L.out.only.size
          have HO5 := Lib.hid (own_base (base' := w.heap.size) ho (by omega))
          replace HA := Lib.hid (own_below HA.out hb (Nat.le_refl _))
          replace L := Lib.hid (L.out.below hb)
          clear hb ho PS
          have HC := Lib.hid (L.out.cur.le (M := N + 100000) (by omega))
          have HO := Lib.hid (grow_trans HG1.out L.out.only)
          go_wp2_with fail
          go_ret2
          exact ⟨_, _, _, _, _, _, hm, hm, rfl, HA.out, HO5.out, HC.out, HO.out⟩
        · have HC := Lib.hid (L.out.cur.le (M := N + 100000) (by omega))
          have HO := Lib.hid (grow_trans HG1.out L.out.only)
          go_wp2_with fail
          go_ret2
          exact ⟨_, _, _, _, _, _, hm, hm, rfl, HA.out, HO5.out, HC.out, HO.out⟩
    · have n1 : (x == 1) = false := by simpa using e1
      by_cases e2 : x = 2
      · subst e2
        go_wp2_with fail
        refine (one_any B g (N + 30000 + 10000 + 2) 4 _ L.out.cur (by omega) (by omega)).mono ?_
        rintro e w4 ⟨b, rfl, hc, hg⟩
        replace L := Lib.hid (L.out.ask hlt1 hc hg)
        replace HA := Lib.hid (own_ask HA.out hlt hg)
        clear hc hg
        cases b with
        | true =>
          have HL := Lib.hid L.out.only
          go_wp2_with fail
          refine (anyChart_any B g (N + 30000 + 10000 + 2 + 2) _ L.out.cur (by omega)).mono ?_
          rintro e w5 ⟨k, v5, zs, hk, rfl, hl⟩
          replace HA := Lib.hid (own_ask HA.out hlt hl.only)
          obtain ⟨A5, c5, rfl⟩ := hl.form
          have L2 := Lib.hid (hl.since HL.out)
          clear hl L HL hm
          have hm := hk
          have HF := Lib.hid (own_base (base' := w.heap.size) L2.out.own HW1.out)
          have HC := Lib.hid (L2.out.cur.le (show N + 30000 + 10000 + 2 + 2 + 30000 ≤ N + 100000 by omega))
          have HO := Lib.hid (grow_trans HG1.out L2.out.only)
          go_wp2_with fail
          go_ret2
          exact ⟨n, _, _, _, _, _, hn, hm, rfl, HA.out, HF.out, HC.out, HO.out⟩
        | false =>
          have HF := Lib.hid (own_base (base' := w.heap.size) L.out.own HW1.out)
          have HC := Lib.hid (L.out.cur.le (M := N + 100000) (by omega))
          have HO := Lib.hid (grow_trans HG1.out L.out.only)
          go_wp2_with fail
          go_ret2
          exact ⟨n, _, _, _, _, _, hn, hm, rfl, HA.out, HF.out, HC.out, HO.out⟩
      · have n2 : (x == 2) = false := by simpa using e2
        have HF := Lib.hid (own_base (base' := w.heap.size) L.out.own HW1.out)
        have HC := Lib.hid (L.out.cur.le (M := N + 100000) (by omega))
        have HO := Lib.hid (grow_trans HG1.out L.out.only)
        go_wp2_with fail
        go_ret2
        exact ⟨n, _, _, _, _, _, hn, hm, rfl, HA.out, HF.out, HC.out, HO.out⟩
end Go.Proofs.Ytnlneblipedddaa
