/- Two drawn charts. Condition: the source's bytes can be read. A contract of the reference's LeastTransition. Conditions: short slices that are owned. A drawn transition. Condition: the source's bytes can be read. What is drawn for the laws on conflicts: a transition and a least distance. Condition: the code's bytes can be read. What is drawn for the laws on waves and on swaps: a transition, with a least distance or alone. Condition: the code's bytes can be read. What is drawn for the laws on swaps beside a transition: a step, or two performers; two charts and counts. Condition: the code's bytes can be read. -/
import Derived.Test.YtjcepipgjpaclaaPFnSwaps25
import Derived.Test.YtjcepipgjpaclaaPFnSwaps28
import Derived.Test.YtjcepipgjpaclaaPFnSwaps12
import Derived.Test.YtjcepipgjpaclaaPFnSwaps20
import Derived.Test.YtjcepipgjpaclaaPFnSwaps06
import Derived.Test.YtjcepipgjpaclaaPFnSwaps09
namespace Go.Proofs.Ytjcepipgjpaclaa
open Go.RowKit

/-- Two lists of spots, owned from the world a on, in the midst of a draw. -/
structure Two (a : World) (B g N : Nat) (W : World) (u : Value) (n : Nat) (xs : List Int) (v : Value) (m : Nat) (ys : List Int) : Prop where
  fst : W.ownsRow a.heap.size 45 2 u n (ints xs)
  snd : W.ownsRow a.heap.size 45 2 v m (ints ys)
  cur : Cur W B g N
  only : a.grownBy W (some g)
set_option maxRecDepth 100000 in
set_option maxHeartbeats 4000000 in
theorem formsTwo_any (B g N : Nat) (w : World) (h : Cur w B g N) (hN : N ≤ 100000) : Calls Try.prog 120 #[.pointer (some ⟨g, 0, none⟩)] w fun e w' =>
    ∃ (n m : Nat) (u v : Value) (xs ys : List Int), n ≤ 13 ∧ m ≤ 13 ∧ e = .returned (.tuple #[u, v]) ∧ w'.ownsRow w.heap.size 45 2 u n (ints xs) ∧ w'.ownsRow w.heap.size 45 2 v m (ints ys) ∧ Cur w' B g (N + 100000) ∧ w.grownBy w' (some g) := by
  have hlt := h.lt
  have C0 := Lib.hid h
  clear h
  go_enter Try.func120, Try.ntmps120
  go_wp2_with fail
  refine (anyChart_any B g N _ C0.out (by omega)).mono ?_
  rintro e w1 ⟨n, u, xs, hn, rfl, hl⟩
  obtain ⟨A, c, rfl⟩ := hl.form
  have hlt1 := hl.cur.lt
  have HW1 := Lib.hid hl.only.size
  have HG1 := Lib.hid hl.only
  have HA := Lib.hid hl.own
  have HAB := Lib.hid (fun k hk => (hl.own.lt k hk).2)
  have HC := Lib.hid hl.cur
  clear hl C0
  go_wp2_with fail
  refine (l1Most_q 1 (n : Int) _).mono ?_
  rintro e w' ⟨rfl, rfl⟩
  obtain ⟨m, hm, hmn⟩ : ∃ m : Nat, max 1 (n : Int) = (m : Int) ∧ (m = n ∨ n = 0 ∧ m = 1) := by
    rcases Nat.eq_zero_or_pos n with h | h
    · exact ⟨1, by omega, .inr ⟨h, rfl⟩⟩
    · exact ⟨n, by omega, .inl rfl⟩
  rw [hm]
  clear hm
  replace hm : m ≤ 13 := by omega
  go_wp2_with fail
  refine (chartOf_any B g (N + 30000) m hm _ HC.out (by omega)).mono ?_
  rintro e w2 ⟨v, ys, rfl, hl⟩
  replace HA := Lib.hid (own_ask HA.out hlt hl.only)
  obtain ⟨Av, cv, rfl⟩ := hl.form
  have L := Lib.hid hl
  clear hl HC
  go_wp2_with fail
  refine (pick_any B g (N + 30000 + 10000) 8 _ L.out.cur (by omega) (by omega)).mono ?_
  rintro e w3 ⟨x, x0, x1, rfl, hc, hg⟩
  simp [pickHi] at x1
  replace L := Lib.hid (L.out.ask hlt1 hc hg)
  replace HA := Lib.hid (own_ask HA.out hlt hg)
  clear hc hg
  by_cases e0 : x = 0
  · subst e0
    have HL := Lib.hid L.out.only
    go_wp2_with fail
    refine (chartOf_any B g (N + 30000 + 10000 + 2) m hm _ L.out.cur (by omega)).mono ?_
    rintro e w4 ⟨v2, zs, rfl, hl⟩
    replace HA := Lib.hid (own_ask HA.out hlt hl.only)
    obtain ⟨A2, c2, rfl⟩ := hl.form
    have L2 := Lib.hid (hl.since HL.out)
    clear hl L HL
    go_wp2_with fail
    go_loopw [25] (fun i wr => ∃ (k : Nat) (zs : List Int), k ≤ m ∧ i = .int .i64 k ∧ Lso w1 B g (N + 60000 + 2 * k) wr (.slice A2 m c2) m zs ∧ wr.ownsRow w.heap.size 45 2 (.slice A n c) n (ints xs)) (fun i _ => m - (intOf i).toNat)
    case atStart => exact ⟨0, zs, by omega, rfl, L2.out.le (by omega), HA.out⟩
    case round =>
      clear L2 HA
      obtain ⟨k, zs, hk, rfl, hl, ha⟩ := hrel
      have L2 := Lib.hid hl
      have HA := Lib.hid ha
      clear hl ha
      by_cases hlk : k < m
      · obtain ⟨bl, rfl, hbl⟩ := own_at L2.out.own (by omega)
        have hxl := L2.out.len
        have p0 := (L2.out.own.cellAt (k * 2) (by omega)).trans (ints_get zs _ (by omega))
        obtain ⟨y, ey⟩ : ∃ q, zs.getD (k * 2) 0 = q := ⟨_, rfl⟩
        rw [ey] at p0
        have i1 : (0 : Int) ≤ (k : Int) := by omega
        have i2 : (k : Int) < (m : Int) := by omega
        have HBL := Lib.hid hbl
        clear ey hbl
        go_wp2_with fail
        refine wp_region_held_drew (S := fun _ => True) (by kernel_rfl) trivial (fun hHeld => ?_)
        replace L2 := Lib.hid (L2.out.drewN 1)
        replace HA := Lib.hid (own_drewN HA.out 1)
        refine take_at (i := 0) (oi := _) 28 (v := .slice (some ⟨bl, 0, none⟩) m c2) rfl rfl (by kernel_rfl) (by kernel_rfl) (by kernel_rfl) (fun _ _ _ h => h) (Or.inl ⟨by rfl, ?_⟩) hHeld ?_
        · (intro w hSw; (try dsimp only at hSw); go_split_ands; go_simp)
        simp only [List.setIfInBounds_toArray, List.set_cons_zero, List.set_cons_succ]
        refine take_at (i := 1) (oi := _) 29 (v := .int .i64 (k : Int)) rfl rfl (by kernel_rfl) (by kernel_rfl) (by kernel_rfl) (fun _ _ _ h => h) (Or.inl ⟨by rfl, ?_⟩) hHeld ?_
        · (intro w hSw; (try dsimp only at hSw); go_split_ands; go_simp)
        simp only [List.setIfInBounds_toArray, List.set_cons_zero, List.set_cons_succ]
        refine take_at (i := 2) (oi := _) 30 (v := .slice (some ⟨bl, 0, none⟩) m c2) rfl rfl (by kernel_rfl) (by kernel_rfl) (by kernel_rfl) (fun _ _ _ h => h) (Or.inl ⟨by rfl, ?_⟩) hHeld ?_
        · (intro w hSw; (try dsimp only at hSw); go_split_ands; go_simp)
        simp only [List.setIfInBounds_toArray, List.set_cons_zero, List.set_cons_succ]
        refine take_at (i := 3) (oi := _) 31 (v := .int .i64 (k : Int)) rfl rfl (by kernel_rfl) (by kernel_rfl) (by kernel_rfl) (fun _ _ _ h => h) (Or.inl ⟨by rfl, ?_⟩) hHeld ?_
        · (intro w hSw; (try dsimp only at hSw); go_split_ands; go_simp)
        simp only [List.setIfInBounds_toArray, List.set_cons_zero, List.set_cons_succ]
        refine take_at (i := 4) (oi := _) 32 (v := .pointer (some ⟨bl, k * 2, none⟩)) rfl rfl (by kernel_rfl) (by kernel_rfl) (by kernel_rfl) (fun _ _ _ h => h) (Or.inl ⟨by rfl, ?_⟩) hHeld ?_
        · (intro w hSw; (try dsimp only at hSw); go_split_ands; go_simp)
        simp only [List.setIfInBounds_toArray, List.set_cons_zero, List.set_cons_succ]
        refine take_at (i := 5) (oi := _) 33 (v := .pointer (some ⟨bl, k * 2, none⟩)) rfl rfl (by kernel_rfl) (by kernel_rfl) (by kernel_rfl) (fun _ _ _ h => h) (Or.inl ⟨by rfl, ?_⟩) hHeld ?_
        · (intro w hSw; (try dsimp only at hSw); go_split_ands; go_simp)
        simp only [List.setIfInBounds_toArray, List.set_cons_zero, List.set_cons_succ]
        refine take_at (i := 7) (oi := _) 35 (v := .pointer (some ⟨g, 0, none⟩)) rfl rfl (by kernel_rfl) (by kernel_rfl) (by kernel_rfl) (fun _ _ _ h => h) (Or.inl ⟨by rfl, ?_⟩) hHeld ?_
        · (intro w hSw; (try dsimp only at hSw); go_split_ands; go_simp)
        simp only [List.setIfInBounds_toArray, List.set_cons_zero, List.set_cons_succ]
        refine wpAnyH_ready (rs := [6, 8]) (by kernel_rfl) (by simp) ?_
        refine AllReadyH.cons (o := _) rfl (fun K9 hK => ?_) (AllReadyH.cons (o := _) rfl (fun K9 hK => ?_) AllReadyH.nil)
        · go_simp
          refine hK.out _ _ trivial (fun hHeld => ?_)
          clear hK K9
          try simp only [Act.put, List.setIfInBounds_toArray, List.set_cons_zero, List.set_cons_succ]
          refine wpAnyH_ready (rs := [8]) (by kernel_rfl) (by simp) ?_
          refine AllReadyH.cons (o := _) rfl (fun K9 hK => ?_) AllReadyH.nil
          go_simp
          refine (pick_any B g (N + 60000 + 2 * k) 2 _ L2.out.cur (by omega) (by omega)).mono ?_
          rintro e w7 ⟨q, q0, q1, rfl, hc, hg⟩
          have c3 : w7.cell? ⟨bl, k * 2, none⟩ = some (.int .i64 y) := (World.cell?_of_block (hg.block bl (block_lt_of_cell (a := ⟨bl, k * 2, none⟩) p0) (by intro e; injection e with e; have := HBL.out; omega))).trans p0
          replace L2 := Lib.hid (L2.out.ask hlt1 hc hg)
          replace HA := Lib.hid (own_ask HA.out hlt hg)
          refine hK.out _ _ trivial (fun hHeld => ?_)
          clear hK K9 hc hg q0 q1
          try simp only [Act.put, List.setIfInBounds_toArray, List.set_cons_zero, List.set_cons_succ]
          obtain ⟨s, es⟩ : ∃ s, IntKind.i64.wrap (y + q) = s := ⟨_, rfl⟩
          refine take_at (i := 9) (oi := _) 37 (v := .int .i64 s) rfl rfl (by kernel_rfl) (by kernel_rfl) (by kernel_rfl) (fun _ _ _ h => h) (Or.inl ⟨by rfl, ?_⟩) hHeld ?_
          · (intro w hSw; (try dsimp only at hSw); go_split_ands; go_simp)
          simp only [List.setIfInBounds_toArray, List.set_cons_zero, List.set_cons_succ]
          clear es
          refine wpAnyH_ready (rs := [10]) (by kernel_rfl) (by simp) ?_
          refine AllReadyH.cons (o := _) rfl (fun K9 hK => ?_) AllReadyH.nil
          go_simp
          refine (l1Least_any 1280 s _).mono ?_
          rintro e w' ⟨rfl, rfl⟩
          refine hK.out _ _ trivial (fun hHeld => ?_)
          clear hK K9
          try simp only [Act.put, List.setIfInBounds_toArray, List.set_cons_zero, List.set_cons_succ]
          refine take_at (i := 11) (oi := _) 39 (v := .pointer (some ⟨bl, k * 2, none⟩)) rfl rfl (by kernel_rfl) (by kernel_rfl) (by kernel_rfl) (fun _ _ _ h => h) (Or.inl ⟨by rfl, ?_⟩) hHeld ?_
          · (intro w hSw; (try dsimp only at hSw); go_split_ands; go_simp)
          simp only [List.setIfInBounds_toArray, List.set_cons_zero, List.set_cons_succ]
          refine take_at (i := 12) (oi := _) 40 (v := .pointer (some ⟨bl, k * 2, none⟩)) rfl rfl (by kernel_rfl) (by kernel_rfl) (by kernel_rfl) (fun _ _ _ h => h) (Or.inl ⟨by rfl, ?_⟩) hHeld ?_
          · (intro w hSw; (try dsimp only at hSw); go_split_ands; go_simp)
          simp only [List.setIfInBounds_toArray, List.set_cons_zero, List.set_cons_succ]
          have f0 := L2.out.own.frozenAt (k * 2)
          have L3 := Lib.hid (L2.out.store (i := k * 2) (v := min 1280 s) hlt1)
          have HA3 := Lib.hid (own_kept HA.out (only_st _ bl (k * 2) (.int .i64 (min 1280 s))) (fun j hj => by have := HAB.out j hj; have := HBL.out; omega))
          refine wpAnyH_ready (rs := [13]) (by kernel_rfl) (by simp) ?_
          refine AllReadyH.cons (o := _) rfl (fun K9 hK => ?_) AllReadyH.nil
          go_simp
          refine hK.out _ _ trivial (fun hHeld => ?_)
          clear hK K9
          refine wpAnyH_done (by kernel_rfl) ?_ _
          go_wp2_with fail
          go_roundw
          case rel => exact ⟨k + 1, _, by omega, by go_num, L3.out.le (by omega), HA3.out⟩
          case measure => simp [intOf]; omega
        · go_simp
          refine (pick_any B g (N + 60000 + 2 * k) 2 _ L2.out.cur (by omega) (by omega)).mono ?_
          rintro e w7 ⟨q, q0, q1, rfl, hc, hg⟩
          have c3 : w7.cell? ⟨bl, k * 2, none⟩ = some (.int .i64 y) := (World.cell?_of_block (hg.block bl (block_lt_of_cell (a := ⟨bl, k * 2, none⟩) p0) (by intro e; injection e with e; have := HBL.out; omega))).trans p0
          replace L2 := Lib.hid (L2.out.ask hlt1 hc hg)
          replace HA := Lib.hid (own_ask HA.out hlt hg)
          refine hK.out _ _ trivial (fun hHeld => ?_)
          clear hK K9 hc hg q0 q1
          try simp only [Act.put, List.setIfInBounds_toArray, List.set_cons_zero, List.set_cons_succ]
          refine wpAnyH_ready (rs := [6]) (by kernel_rfl) (by simp) ?_
          refine AllReadyH.cons (o := _) rfl (fun K9 hK => ?_) AllReadyH.nil
          go_simp
          refine hK.out _ _ trivial (fun hHeld => ?_)
          clear hK K9
          try simp only [Act.put, List.setIfInBounds_toArray, List.set_cons_zero, List.set_cons_succ]
          obtain ⟨s, es⟩ : ∃ s, IntKind.i64.wrap (y + q) = s := ⟨_, rfl⟩
          refine take_at (i := 9) (oi := _) 37 (v := .int .i64 s) rfl rfl (by kernel_rfl) (by kernel_rfl) (by kernel_rfl) (fun _ _ _ h => h) (Or.inl ⟨by rfl, ?_⟩) hHeld ?_
          · (intro w hSw; (try dsimp only at hSw); go_split_ands; go_simp)
          simp only [List.setIfInBounds_toArray, List.set_cons_zero, List.set_cons_succ]
          clear es
          refine wpAnyH_ready (rs := [10]) (by kernel_rfl) (by simp) ?_
          refine AllReadyH.cons (o := _) rfl (fun K9 hK => ?_) AllReadyH.nil
          go_simp
          refine (l1Least_any 1280 s _).mono ?_
          rintro e w' ⟨rfl, rfl⟩
          refine hK.out _ _ trivial (fun hHeld => ?_)
          clear hK K9
          try simp only [Act.put, List.setIfInBounds_toArray, List.set_cons_zero, List.set_cons_succ]
          refine take_at (i := 11) (oi := _) 39 (v := .pointer (some ⟨bl, k * 2, none⟩)) rfl rfl (by kernel_rfl) (by kernel_rfl) (by kernel_rfl) (fun _ _ _ h => h) (Or.inl ⟨by rfl, ?_⟩) hHeld ?_
          · (intro w hSw; (try dsimp only at hSw); go_split_ands; go_simp)
          simp only [List.setIfInBounds_toArray, List.set_cons_zero, List.set_cons_succ]
          refine take_at (i := 12) (oi := _) 40 (v := .pointer (some ⟨bl, k * 2, none⟩)) rfl rfl (by kernel_rfl) (by kernel_rfl) (by kernel_rfl) (fun _ _ _ h => h) (Or.inl ⟨by rfl, ?_⟩) hHeld ?_
          · (intro w hSw; (try dsimp only at hSw); go_split_ands; go_simp)
          simp only [List.setIfInBounds_toArray, List.set_cons_zero, List.set_cons_succ]
          have f0 := L2.out.own.frozenAt (k * 2)
          have L3 := Lib.hid (L2.out.store (i := k * 2) (v := min 1280 s) hlt1)
          have HA3 := Lib.hid (own_kept HA.out (only_st _ bl (k * 2) (.int .i64 (min 1280 s))) (fun j hj => by have := HAB.out j hj; have := HBL.out; omega))
          refine wpAnyH_ready (rs := [13]) (by kernel_rfl) (by simp) ?_
          refine AllReadyH.cons (o := _) rfl (fun K9 hK => ?_) AllReadyH.nil
          go_simp
          refine hK.out _ _ trivial (fun hHeld => ?_)
          clear hK K9
          refine wpAnyH_done (by kernel_rfl) ?_ _
          go_wp2_with fail
          go_roundw
          case rel => exact ⟨k + 1, _, by omega, by go_num, L3.out.le (by omega), HA3.out⟩
          case measure => simp [intOf]; omega
      · obtain rfl : k = m := by omega
        have HF := Lib.hid (own_base (base' := w.heap.size) L2.out.own HW1.out)
        have HC := Lib.hid (L2.out.cur.le (show N + 60000 + 2 * k ≤ N + 100000 by omega))
        have HO := Lib.hid (grow_trans HG1.out L2.out.only)
        go_wp2_with fail
        go_ret2
        exact ⟨n, _, _, _, _, _, hn, hm, rfl, HA.out, HF.out, HC.out, HO.out⟩
  · have n0 : (x == 0) = false := by simpa using e0
    by_cases e1 : x = 1
    · subst e1
      have P := chGood_any _ n _ xs _ (own_cap HA.out) (Rd.of_own HA.out) (Nat.le_refl _) (by omega)
      have hch := chB_spot (n := n) (xs := xs)
      cases hb1 : chB n xs with
      | false =>
        rw [hb1] at P
        clear hch hb1
        go_wp2_with fail
        refine P.mono ?_
        rintro e w4 ⟨rfl, hb⟩
        replace HA := Lib.hid (own_below HA.out hb (Nat.le_refl _))
        replace L := Lib.hid (L.out.below hb)
        clear hb P
        have HF := Lib.hid (own_base (base' := w.heap.size) L.out.own HW1.out)
        have HC := Lib.hid (L.out.cur.le (M := N + 100000) (by omega))
        have HO := Lib.hid (grow_trans HG1.out L.out.only)
        go_wp2_with fail
        go_ret2
        exact ⟨n, _, _, _, _, _, hn, hm, rfl, HA.out, HF.out, HC.out, HO.out⟩
      | true =>
        rw [hb1] at P
        obtain ⟨⟨hn0, -⟩, -⟩ := hch hb1
        obtain rfl : m = n := by omega
        have HCB := Lib.hid hb1
        clear hch hb1 hmn
        go_wp2_with fail
        refine P.mono ?_
        rintro e w4 ⟨rfl, hb⟩
        replace HA := Lib.hid (own_below HA.out hb (Nat.le_refl _))
        replace L := Lib.hid (L.out.below hb)
        clear hb P
        go_wp2_with fail
        refine (chOwn_any _ _ m xs _ HA.out (by omega)).mono ?_
        rintro e w5 ⟨v5, rfl, ho, hb⟩
        obtain ⟨A5, c5, rfl⟩ := (Rd.of_own ho).form
        have hz := HG1.out.size
        have hz2 := L.out.only.size
        have HO5 := Lib.hid (own_base (base' := w.heap.size) ho (by omega))
        replace HA := Lib.hid (own_below HA.out hb (Nat.le_refl _))
        replace L := Lib.hid (L.out.below hb)
        clear hb ho
        by_cases h1 : 1 < m
        · have i1 : (1 : Int) < (m : Int) := by omega
          have i2 : (m : Int) - 1 = ((m - 1 : Nat) : Int) := by omega
          have i3 := IntWalk.i64_in ((m - 1 : Nat) : Int) (by omega)
          have PS := Lib.hid (SwapPerformers_ends _ _ m xs _ HO5.out (by omega) (by omega) HCB.out)
          clear HO5
          obtain ⟨z, ez⟩ : ∃ z, m - 1 = z := ⟨_, rfl⟩
          rw [ez] at i2 i3 PS
          clear ez
          go_wp2_with fail
          refine PS.out.mono ?_
          rintro e w6 ⟨v6, zs, rfl, ho, hb⟩
          obtain ⟨A6, c6, rfl⟩ := (Rd.of_own ho).form
          have hz := HG1.out.size
          have hz2 := L.out.only.size
          have HO5 := Lib.hid (own_base (base' := w.heap.size) ho (by omega))
          replace HA := Lib.hid (own_below HA.out hb (Nat.le_refl _))
          replace L := Lib.hid (L.out.below hb)
          clear hb ho PS
          have HC := Lib.hid (L.out.cur.le (M := N + 100000) (by omega))
          have HO := Lib.hid (grow_trans HG1.out L.out.only)
          go_wp2_with fail
          go_ret2
          exact ⟨_, _, _, _, _, _, hm, hm, rfl, HA.out, HO5.out, HC.out, HO.out⟩
        · have HC := Lib.hid (L.out.cur.le (M := N + 100000) (by omega))
          have HO := Lib.hid (grow_trans HG1.out L.out.only)
          go_wp2_with fail
          go_ret2
          exact ⟨_, _, _, _, _, _, hm, hm, rfl, HA.out, HO5.out, HC.out, HO.out⟩
    · have n1 : (x == 1) = false := by simpa using e1
      by_cases e2 : x = 2
      · subst e2
        go_wp2_with fail
        refine (one_any B g (N + 30000 + 10000 + 2) 4 _ L.out.cur (by omega) (by omega)).mono ?_
        rintro e w4 ⟨b, rfl, hc, hg⟩
        replace L := Lib.hid (L.out.ask hlt1 hc hg)
        replace HA := Lib.hid (own_ask HA.out hlt hg)
        clear hc hg
        cases b with
        | true =>
          have HL := Lib.hid L.out.only
          go_wp2_with fail
          refine (anyChart_any B g (N + 30000 + 10000 + 2 + 2) _ L.out.cur (by omega)).mono ?_
          rintro e w5 ⟨k, v5, zs, hk, rfl, hl⟩
          replace HA := Lib.hid (own_ask HA.out hlt hl.only)
          obtain ⟨A5, c5, rfl⟩ := hl.form
          have L2 := Lib.hid (hl.since HL.out)
          clear hl L HL hm
          have hm := hk
          have HF := Lib.hid (own_base (base' := w.heap.size) L2.out.own HW1.out)
          have HC := Lib.hid (L2.out.cur.le (show N + 30000 + 10000 + 2 + 2 + 30000 ≤ N + 100000 by omega))
          have HO := Lib.hid (grow_trans HG1.out L2.out.only)
          go_wp2_with fail
          go_ret2
          exact ⟨n, _, _, _, _, _, hn, hm, rfl, HA.out, HF.out, HC.out, HO.out⟩
        | false =>
          have HF := Lib.hid (own_base (base' := w.heap.size) L.out.own HW1.out)
          have HC := Lib.hid (L.out.cur.le (M := N + 100000) (by omega))
          have HO := Lib.hid (grow_trans HG1.out L.out.only)
          go_wp2_with fail
          go_ret2
          exact ⟨n, _, _, _, _, _, hn, hm, rfl, HA.out, HF.out, HC.out, HO.out⟩
      · have n2 : (x == 2) = false := by simpa using e2
        have HF := Lib.hid (own_base (base' := w.heap.size) L.out.own HW1.out)
        have HC := Lib.hid (L.out.cur.le (M := N + 100000) (by omega))
        have HO := Lib.hid (grow_trans HG1.out L.out.only)
        go_wp2_with fail
        go_ret2
        exact ⟨n, _, _, _, _, _, hn, hm, rfl, HA.out, HF.out, HC.out, HO.out⟩
end Go.Proofs.Ytjcepipgjpaclaa

namespace Go.Proofs.Ytjcepipgjpaclaa
open Go.RowKit

/-- The costs between two charts. -/
def coC (xs ys : List Int) (n : Nat) : Nat → Nat → Int := cst (coRs xs ys n n)
/-- The places of the least transition. -/
def ltP (n : Nat) (xs ys : List Int) : List Int := mlL (coC xs ys n) (tb (coC xs ys n) n) n n
def ltT (n : Nat) (xs : List Int) (m : Nat) (ys : List Int) (c : Int) : TrN := if aaB n xs m ys c = true then ⟨n, xs, m, ys, c, n, ltP n xs ys⟩ else zeroT
theorem aa_yes {n m : Nat} {xs ys : List Int} {c : Int} (h : aaB n xs m ys c = true) : (1 ≤ n ∧ n ≤ 12) ∧ m = n ∧ (1 ≤ c ∧ c ≤ 64) ∧ (∀ i, i < n → spotB (X xs i) (Y xs i) = true) ∧ ∀ i, i < n → spotB (X ys i) (Y ys i) = true := by
  simp only [aaB, Bool.and_eq_true, beq_iff_eq] at h
  obtain ⟨⟨h1, h2, h3⟩, h4⟩ := h
  have k1 := chB_spot h1
  have k2 := chB_spot h2
  have k4 := inB_yes h4
  exact ⟨k1.1, h3.symm, k4, k1.2, fun i hi => k2.2 i (by omega)⟩
set_option maxRecDepth 100000 in
set_option maxHeartbeats 4000000 in
theorem specLeastTransition_any (v u : Value) (lo n m : Nat) (xs ys : List Int) (c : Int) (w : World) (hv : w.ownsRow lo 45 2 v n (ints xs)) (hu : w.ownsRow lo 45 2 u m (ints ys)) (hn : n ≤ 1000) (hm : m ≤ 1000) :
    Calls Try.prog 32 #[v, u, .int .i64 c] w fun e w' => ∃ r, e = .returned (.tuple #[r, .bool (aaB n xs m ys c)]) ∧ OwnA w' w.heap.size r (ltT n xs m ys c) ∧ Below w.heap.size w w' := by
  obtain ⟨A, ca, rfl⟩ := (Rd.of_own hv).form
  obtain ⟨C, cb, rfl⟩ := (Rd.of_own hu).form
  have K0 := Lib.hid (Blk.new w 27 #[.slice none 0 0, .slice none 0 0, .int .i64 0, .slice none 0 0])
  have HB0 := Lib.hid (below_new (Below.refl w.heap.size w) (.cells #[.slice none 0 0, .slice none 0 0, .int .i64 0, .slice none 0 0] 27))
  have HV := Lib.hid (fun W (hb : Below w.heap.size w W) => own_below hv hb (Nat.le_refl _))
  have HU := Lib.hid (fun W (hb : Below w.heap.size w W) => own_below hu hb (Nat.le_refl _))
  have HP := Lib.hid (fun W (hb : Below w.heap.size w W) => asAsked_any _ _ n m W.heap.size xs ys c W (own_cap hv) (own_cap hu) (Rd.of_own (own_below hv hb (Nat.le_refl _))) (Rd.of_own (own_below hu hb (Nat.le_refl _))) (Nat.le_refl _) (by omega) (by omega))
  clear hv hu
  cases hab : aaB n xs m ys c with
  | false =>
    have HT := Lib.hid (show ltT n xs m ys c = zeroT by simp [ltT, hab])
    have HE := Lib.hid hab
    obtain ⟨f0, f1, f2, f3⟩ := K0.out.c4
    clear hab
    go_enter Try.func32, Try.ntmps32
    go_wp2_with fail
    refine (HP.out _ HB0.out).mono ?_
    rintro e w2 ⟨rfl, hb⟩
    have k1 := K0.out.on hb
    have HB1 := Lib.hid (below_on HB0.out hb)
    obtain ⟨g0, g1, g2, g3⟩ := k1.c4
    have g4 := k1.frozen 0
    have g5 := k1.frozen 1
    have g6 := k1.frozen 2
    have g7 := k1.frozen 3
    have K1 := Lib.hid k1
    clear hb K0 HB0 k1 f0 f1 f2 f3
    rw [HE.out]
    go_wp2_with fail
    obtain ⟨m0, m1, m2, m3⟩ := (blk_set4 K1.out (.slice none 0 0) (.slice none 0 0) (.int .i64 0) (.slice none 0 0)).c4
    exact bodyPost_ret (v := .tuple #[.agg #[.slice none 0 0, .slice none 0 0, .int .i64 0, .slice none 0 0], .bool false]) (by simp [results, Try.results32, go_sem, m0, m1, m2, m3]) rfl
      ⟨_, rfl, by rw [HT.out]; exact OwnA.zero _ _, below_set4 HB1.out (Nat.le_refl _) _ _ _ _⟩
  | true =>
    obtain ⟨⟨n0, n1⟩, rfl, hc, hx, hy⟩ := aa_yes hab
    have HT := Lib.hid (show ltT m xs m ys c = ⟨m, xs, m, ys, c, m, mlL (coC xs ys m) (tb (coC xs ys m) m) m m⟩ by simp [ltT, hab, ltP])
    have HE := Lib.hid hab
    have PC := Lib.hid (fun (W : World) (hb : Below w.heap.size w W) => asCosts_any _ _ m m W.heap.size xs ys W (Rd.of_own (HV.out W hb)) (Rd.of_own (HU.out W hb)) (Nat.le_refl _) n1 n1 hx hy)
    have hco := co_ok hx hy
    have hsq := co_sq xs ys m
    have PL := Lib.hid (fun (W : World) (B : Nat) (q : Value) (h : RdR W B q m (coRs xs ys m m)) (hB : B ≤ W.heap.size) => maLeast_any B m q (coRs xs ys m m) W h hB n0 n1 hsq hco)
    have PW := Lib.hid (fun (W : World) (q : Value) (lq : Nat) (ps : List Int) (hb : Below w.heap.size w W) (h : W.ownsRow lq 3 1 q m (ints ps)) => asWith_any _ _ q lo lq m m m xs ys ps c W (HV.out W hb) (HU.out W hb) h hn hn (by omega))
    clear hab hx hy hc hco hsq HV HU
    obtain ⟨f0, f1, f2, f3⟩ := K0.out.c4
    go_enter Try.func32, Try.ntmps32
    go_wp2_with fail
    refine (HP.out _ HB0.out).mono ?_
    rintro e w2 ⟨rfl, hb⟩
    have K1 := Lib.hid (K0.out.on hb)
    have HB1 := Lib.hid (below_on HB0.out hb)
    clear hb K0 HB0 f0 f1 f2 f3
    rw [HE.out]
    go_wp2_with fail
    refine (PC.out _ HB1.out).mono ?_
    rintro e w3 ⟨q, vs, rfl, hg, hb⟩
    have K2 := Lib.hid (K1.out.on hb)
    have HB2 := Lib.hid (below_on HB1.out hb)
    have HR := Lib.hid hg.rd
    clear hb hg K1 HB1
    go_wp2_with fail
    refine (PL.out _ _ _ HR.out (Nat.le_refl _)).mono ?_
    rintro e w4 ⟨q2, rfl, ho, hb⟩
    obtain ⟨Aq, cq, rfl⟩ := (Rd.of_own ho).form
    have K3 := Lib.hid (K2.out.on hb)
    have HB3 := Lib.hid (below_on HB2.out hb)
    have HO := Lib.hid ho
    clear hb ho K2 HB2 HR
    go_wp2_with fail
    refine (PW.out _ _ _ _ HB3.out HO.out).mono ?_
    rintro e w5 ⟨r, rfl, oa, hb⟩
    have OA := Lib.hid oa
    have KZ := Lib.hid (K3.out.on hb)
    have HBY := Lib.hid (below_on HB3.out hb)
    have HBZ := Lib.hid HB3.out.size
    clear hb oa K3 HB3 HO
    obtain ⟨Ar, cr, Dr, dr, Er, er, rfl, o1, o2, o3⟩ := OA.out.form
    obtain ⟨f0, f1, f2, f3⟩ := KZ.out.c4
    have g0 := KZ.out.frozen 0
    have g1 := KZ.out.frozen 1
    have g2 := KZ.out.frozen 2
    have g3 := KZ.out.frozen 3
    have O1 := Lib.hid o1
    have O2 := Lib.hid o2
    have O3 := Lib.hid o3
    clear o1 o2 o3 OA
    go_wp2_with fail
    obtain ⟨m0, m1, m2, m3⟩ := (blk_set4 KZ.out (.slice Ar m cr) (.slice Dr m dr) (.int .i64 c) (.slice Er m er)).c4
    exact bodyPost_ret (v := .tuple #[.agg #[.slice Ar m cr, .slice Dr m dr, .int .i64 c, .slice Er m er], .bool true]) (by simp [results, Try.results32, go_sem, m0, m1, m2, m3]) rfl
      ⟨_, rfl, by rw [HT.out]; exact ⟨_, _, _, rfl, own_base (own_set4 O1.out KZ.out (by decide) _ _ _ _) HBZ.out, own_base (own_set4 O2.out KZ.out (by decide) _ _ _ _) HBZ.out, own_base (own_set4 O3.out KZ.out (by decide) _ _ _ _) HBZ.out⟩, below_set4 HBY.out (Nat.le_refl _) _ _ _ _⟩
end Go.Proofs.Ytjcepipgjpaclaa

namespace Go.Proofs.Ytjcepipgjpaclaa
open Go.RowKit

/-- A transition is handed out, owned from a on, and nothing older but block g has changed. -/
def HandsT (B g N : Nat) (w : World) (e : Ending) (w' : World) : Prop := ∃ (r : Value) (t : TrN), e = .returned r ∧ OwnA w' w.heap.size r t ∧ (t.n ≤ 13 ∧ t.m ≤ 13 ∧ t.p ≤ 13) ∧ Cur w' B g N ∧ w.grownBy w' (some g)
def zT4 : Array Value := #[.slice none 0 0, .slice none 0 0, .int .i64 0, .slice none 0 0]
theorem cur_below {w w' : World} {B g N : Nat} (h : Cur w B g N) (hb : Below w.heap.size w w') : Cur w' B g N := h.grown (row := none) ⟨hb.os, hb.tape, hb.output, hb.size, fun i hi _ => hb.block i hi⟩ (fun k hk => by cases hk)
theorem only_then {a w w' : World} {g : Option Nat} (h : a.grownBy w g) (hb : Below w.heap.size w w') : a.grownBy w' g := grow_trans h ⟨hb.os, hb.tape, hb.output, hb.size, fun i hi _ => hb.block i hi⟩
theorem only_far {a w : World} {g : Nat} {p : Addr} (h : a.grownBy w (some g)) (hp : a.heap.size ≤ p.block) (v : Value) : a.grownBy (w.setCell p v) (some g) := only_set h hp v
set_option maxRecDepth 100000 in
set_option maxHeartbeats 4000000 in
theorem transition_any (B g N : Nat) (w : World) (h : Cur w B g N) (hN : N ≤ 1000) : Calls Try.prog 67 #[.pointer (some ⟨g, 0, none⟩)] w (HandsT B g (N + 200000) w) := by
  have hlt := h.lt
  have KR := Lib.hid (Blk.new w 27 #[.slice none 0 0, .slice none 0 0, .int .i64 0, .slice none 0 0])
  have C0 := Lib.hid (h.alloc (.cells #[.slice none 0 0, .slice none 0 0, .int .i64 0, .slice none 0 0] 27))
  have G0 := Lib.hid (only_alloc (World.grownBy.refl w (some g)) (.cells #[.slice none 0 0, .slice none 0 0, .int .i64 0, .slice none 0 0] 27))
  clear h
  go_enter Try.func67, Try.ntmps67
  go_wp2_with fail
  refine (formsTwo_any B g N _ C0.out (by omega)).mono ?_
  rintro e w1 ⟨n, m, u, v, xs, ys, hn, hm, rfl, hu, hv, hc, hg⟩
  obtain ⟨A, ca, rfl⟩ := (Rd.of_own hu).form
  obtain ⟨C, cb, rfl⟩ := (Rd.of_own hv).form
  have HU := Lib.hid (own_base (base' := w.heap.size) hu G0.out.size)
  have HV := Lib.hid (own_base (base' := w.heap.size) hv G0.out.size)
  replace C0 := Lib.hid hc
  replace G0 := Lib.hid (grow_trans G0.out hg)
  replace KR := Lib.hid (KR.out.grown' hg (by omega))
  clear hu hv hc hg
  have A5 := Lib.hid (Blk.new w1 3 (ints [0, 65]).toArray)
  have hg5 := C0.out.lt
  replace C0 := Lib.hid (C0.out.alloc (.cells (ints [0, 65]).toArray 3))
  replace G0 := Lib.hid (only_alloc G0.out (.cells (ints [0, 65]).toArray 3))
  replace HU := Lib.hid (HU.out.alloc (.cells (ints [0, 65]).toArray 3))
  replace HV := Lib.hid (HV.out.alloc (.cells (ints [0, 65]).toArray 3))
  replace KR := Lib.hid (KR.out.alloc (.cells (ints [0, 65]).toArray 3))
  go_wp2_with fail
  refine (among_blk B g (N + 100000) w1.heap.size _ [0, 65] 0 65 _ C0.out (by omega) hg5 A5.out (by simp) (by simp) (by simp; try omega)).mono ?_
  rintro e w2 ⟨x, x0, x1, rfl, hc, hg⟩
  replace C0 := Lib.hid hc
  replace G0 := Lib.hid (grow_trans G0.out hg)
  replace HU := Lib.hid (own_ask HU.out hlt hg)
  replace HV := Lib.hid (own_ask HV.out hlt hg)
  replace KR := Lib.hid (KR.out.grown' hg (by omega))
  clear hc hg
  clear A5 hg5
  have A5 := Lib.hid (Blk.new w2 3 (ints [1, 4, 8, 8, 16, 32, 64, x]).toArray)
  have hg5 := C0.out.lt
  replace C0 := Lib.hid (C0.out.alloc (.cells (ints [1, 4, 8, 8, 16, 32, 64, x]).toArray 3))
  replace G0 := Lib.hid (only_alloc G0.out (.cells (ints [1, 4, 8, 8, 16, 32, 64, x]).toArray 3))
  replace HU := Lib.hid (HU.out.alloc (.cells (ints [1, 4, 8, 8, 16, 32, 64, x]).toArray 3))
  replace HV := Lib.hid (HV.out.alloc (.cells (ints [1, 4, 8, 8, 16, 32, 64, x]).toArray 3))
  replace KR := Lib.hid (KR.out.alloc (.cells (ints [1, 4, 8, 8, 16, 32, 64, x]).toArray 3))
  go_wp2_with fail
  refine (among_blk B g (N + 100000 + 2) w2.heap.size _ [1, 4, 8, 8, 16, 32, 64, x] 0 65 _ C0.out (by omega) hg5 A5.out (by simp) (by simp) (by simp; try omega)).mono ?_
  rintro e w3 ⟨c, c0, c1, rfl, hc, hg⟩
  replace C0 := Lib.hid hc
  replace G0 := Lib.hid (grow_trans G0.out hg)
  replace HU := Lib.hid (own_ask HU.out hlt hg)
  replace HV := Lib.hid (own_ask HV.out hlt hg)
  replace KR := Lib.hid (KR.out.grown' hg (by omega))
  clear hc hg
  clear A5 hg5
  go_wp2_with fail
  refine (matching_any B g (N + 100000 + 2 + 2) n hn _ C0.out (by omega)).mono ?_
  rintro e w4 ⟨q, ps, rfl, hl⟩
  obtain ⟨D, cc, rfl⟩ := hl.form
  have HP := Lib.hid (own_base (base' := w.heap.size) hl.own G0.out.size)
  have hc := hl.cur
  have hg := hl.only
  clear hl
  replace C0 := Lib.hid hc
  replace G0 := Lib.hid (grow_trans G0.out hg)
  replace HU := Lib.hid (own_ask HU.out hlt hg)
  replace HV := Lib.hid (own_ask HV.out hlt hg)
  replace KR := Lib.hid (KR.out.grown' hg (by omega))
  clear hc hg
  have KA := Lib.hid (Blk.new w4 27 #[.slice A n ca, .slice C m cb, .int .i64 c, .slice D n cc])
  have HNE := Lib.hid (show g < w4.heap.size from C0.out.lt)
  have HWR := Lib.hid (show w.heap.size < w4.heap.size from KR.out.lt)
  replace C0 := Lib.hid (C0.out.alloc (.cells #[.slice A n ca, .slice C m cb, .int .i64 c, .slice D n cc] 27))
  replace G0 := Lib.hid (only_alloc G0.out (.cells #[.slice A n ca, .slice C m cb, .int .i64 c, .slice D n cc] 27))
  replace HU := Lib.hid (HU.out.alloc (.cells #[.slice A n ca, .slice C m cb, .int .i64 c, .slice D n cc] 27))
  replace HV := Lib.hid (HV.out.alloc (.cells #[.slice A n ca, .slice C m cb, .int .i64 c, .slice D n cc] 27))
  replace HP := Lib.hid (HP.out.alloc (.cells #[.slice A n ca, .slice C m cb, .int .i64 c, .slice D n cc] 27))
  replace KR := Lib.hid (KR.out.alloc (.cells #[.slice A n ca, .slice C m cb, .int .i64 c, .slice D n cc] 27))
  have P := asAsked_any _ _ n m _ xs ys c _ (own_cap HU.out) (own_cap HV.out) (Rd.of_own HU.out) (Rd.of_own HV.out) (Nat.le_refl _) (by omega) (by omega)
  cases hab : aaB n xs m ys c with
  | false =>
    rw [hab] at P
    clear hab
    obtain ⟨a0, a1, a2, a3⟩ := KA.out.c4
    go_wp2_with fail
    refine P.mono ?_
    rintro e w5 ⟨rfl, hb⟩
    clear a0 a1 a2 a3 P
    replace C0 := Lib.hid (cur_below C0.out hb)
    replace G0 := Lib.hid (only_then G0.out hb)
    replace HU := Lib.hid (own_below HU.out hb (Nat.le_refl _))
    replace HV := Lib.hid (own_below HV.out hb (Nat.le_refl _))
    replace HP := Lib.hid (own_below HP.out hb (Nat.le_refl _))
    replace KR := Lib.hid (KR.out.on hb)
    replace KA := Lib.hid (KA.out.on hb)
    clear hb
    obtain ⟨a0, a1, a2, a3⟩ := KA.out.c4
    obtain ⟨r0, r1, r2, r3⟩ := KR.out.c4
    have f0 := KR.out.frozen 0
    have f1 := KR.out.frozen 1
    have f2 := KR.out.frozen 2
    have f3 := KR.out.frozen 3
    have C1 := Lib.hid ((((C0.out.setCell (p := ⟨w.heap.size, 0, none⟩) hlt (.slice A n ca)).setCell (p := ⟨w.heap.size, 1, none⟩) hlt (.slice C m cb)).setCell (p := ⟨w.heap.size, 2, none⟩) hlt (.int .i64 c)).setCell (p := ⟨w.heap.size, 3, none⟩) hlt (.slice D n cc))
    have G1 := Lib.hid (only_far (only_far (only_far (only_far G0.out (p := ⟨w.heap.size, 0, none⟩) (Nat.le_refl _) (.slice A n ca)) (p := ⟨w.heap.size, 1, none⟩) (Nat.le_refl _) (.slice C m cb)) (p := ⟨w.heap.size, 2, none⟩) (Nat.le_refl _) (.int .i64 c)) (p := ⟨w.heap.size, 3, none⟩) (Nat.le_refl _) (.slice D n cc))
    have O1 := Lib.hid (own_set4 HU.out KR.out (by decide) (.slice A n ca) (.slice C m cb) (.int .i64 c) (.slice D n cc))
    have O2 := Lib.hid (own_set4 HV.out KR.out (by decide) (.slice A n ca) (.slice C m cb) (.int .i64 c) (.slice D n cc))
    have O3 := Lib.hid (own_set4 HP.out KR.out (by decide) (.slice A n ca) (.slice C m cb) (.int .i64 c) (.slice D n cc))
    go_wp2_with fail
    obtain ⟨m0, m1, m2, m3⟩ := (blk_set4 KR.out (.slice A n ca) (.slice C m cb) (.int .i64 c) (.slice D n cc)).c4
    exact bodyPost_ret (v := .agg #[(.slice A n ca), (.slice C m cb), (.int .i64 c), (.slice D n cc)]) (by simp [results, Try.results67, go_sem, m0, m1, m2, m3]) rfl
      ⟨_, ⟨_, _, _, _, _, _, _⟩, rfl, ⟨_, _, _, rfl, O1.out, O2.out, O3.out⟩, ⟨hn, hm, hn⟩, C1.out.le (by omega), G1.out⟩
  | true =>
    rw [hab] at P
    have HAB := Lib.hid hab
    clear hab
    obtain ⟨a0, a1, a2, a3⟩ := KA.out.c4
    go_wp2_with fail
    refine P.mono ?_
    rintro e w5 ⟨rfl, hb⟩
    clear a0 a1 a2 a3 P
    replace C0 := Lib.hid (cur_below C0.out hb)
    replace G0 := Lib.hid (only_then G0.out hb)
    replace HU := Lib.hid (own_below HU.out hb (Nat.le_refl _))
    replace HV := Lib.hid (own_below HV.out hb (Nat.le_refl _))
    replace HP := Lib.hid (own_below HP.out hb (Nat.le_refl _))
    replace KR := Lib.hid (KR.out.on hb)
    replace KA := Lib.hid (KA.out.on hb)
    clear hb
    go_wp2_with fail
    refine (one_any B g (N + 100000 + 2 + 2 + 100) 3 _ C0.out (by omega) (by omega)).mono ?_
    rintro e w6 ⟨b, rfl, hc, hg⟩
    replace HP := Lib.hid (own_ask HP.out hlt hg)
    replace KA := Lib.hid (KA.out.grown' hg (by have := HNE.out; omega))
    replace C0 := Lib.hid hc
    replace G0 := Lib.hid (grow_trans G0.out hg)
    replace HU := Lib.hid (own_ask HU.out hlt hg)
    replace HV := Lib.hid (own_ask HV.out hlt hg)
    replace KR := Lib.hid (KR.out.grown' hg (by omega))
    clear hc hg
    cases b with
    | false =>
      clear HAB
      obtain ⟨a0, a1, a2, a3⟩ := KA.out.c4
      obtain ⟨r0, r1, r2, r3⟩ := KR.out.c4
      have f0 := KR.out.frozen 0
      have f1 := KR.out.frozen 1
      have f2 := KR.out.frozen 2
      have f3 := KR.out.frozen 3
      have C1 := Lib.hid ((((C0.out.setCell (p := ⟨w.heap.size, 0, none⟩) hlt (.slice A n ca)).setCell (p := ⟨w.heap.size, 1, none⟩) hlt (.slice C m cb)).setCell (p := ⟨w.heap.size, 2, none⟩) hlt (.int .i64 c)).setCell (p := ⟨w.heap.size, 3, none⟩) hlt (.slice D n cc))
      have G1 := Lib.hid (only_far (only_far (only_far (only_far G0.out (p := ⟨w.heap.size, 0, none⟩) (Nat.le_refl _) (.slice A n ca)) (p := ⟨w.heap.size, 1, none⟩) (Nat.le_refl _) (.slice C m cb)) (p := ⟨w.heap.size, 2, none⟩) (Nat.le_refl _) (.int .i64 c)) (p := ⟨w.heap.size, 3, none⟩) (Nat.le_refl _) (.slice D n cc))
      have O1 := Lib.hid (own_set4 HU.out KR.out (by decide) (.slice A n ca) (.slice C m cb) (.int .i64 c) (.slice D n cc))
      have O2 := Lib.hid (own_set4 HV.out KR.out (by decide) (.slice A n ca) (.slice C m cb) (.int .i64 c) (.slice D n cc))
      have O3 := Lib.hid (own_set4 HP.out KR.out (by decide) (.slice A n ca) (.slice C m cb) (.int .i64 c) (.slice D n cc))
      go_wp2_with fail
      obtain ⟨m0, m1, m2, m3⟩ := (blk_set4 KR.out (.slice A n ca) (.slice C m cb) (.int .i64 c) (.slice D n cc)).c4
      exact bodyPost_ret (v := .agg #[(.slice A n ca), (.slice C m cb), (.int .i64 c), (.slice D n cc)]) (by simp [results, Try.results67, go_sem, m0, m1, m2, m3]) rfl
        ⟨_, ⟨_, _, _, _, _, _, _⟩, rfl, ⟨_, _, _, rfl, O1.out, O2.out, O3.out⟩, ⟨hn, hm, hn⟩, C1.out.le (by omega), G1.out⟩
    | true =>
      have PL := Lib.hid (specLeastTransition_any _ _ _ n m xs ys c _ HU.out HV.out (by omega) (by omega))
      have HZT := Lib.hid (show (ltT n xs m ys c).n ≤ 13 ∧ (ltT n xs m ys c).m ≤ 13 ∧ (ltT n xs m ys c).p ≤ 13 by rw [ltT, if_pos HAB.out]; exact ⟨hn, hm, hn⟩)
      rw [HAB.out] at PL
      obtain ⟨a0, a1, a2, a3⟩ := KA.out.c4
      go_wp2_with fail
      refine PL.out.mono ?_
      rintro e w7 ⟨r, rfl, oa, hb⟩
      have hsz := G0.out.size
      obtain ⟨Ar, cr, Dr, dr, Er, er, rfl, o1, o2, o3⟩ := (oa.base hsz).form
      clear a0 a1 a2 a3 PL oa
      replace C0 := Lib.hid (cur_below C0.out hb)
      replace G0 := Lib.hid (only_then G0.out hb)
      replace HU := Lib.hid (own_below HU.out hb (Nat.le_refl _))
      replace HV := Lib.hid (own_below HV.out hb (Nat.le_refl _))
      replace HP := Lib.hid (own_below HP.out hb (Nat.le_refl _))
      replace KR := Lib.hid (KR.out.on hb)
      replace KA := Lib.hid (KA.out.on hb)
      clear hb
      obtain ⟨T, eT⟩ : ∃ T, ltT n xs m ys c = T := ⟨_, rfl⟩
      rw [eT] at o1 o2 o3 HZT ⊢
      obtain ⟨b0, b1, b2, b3⟩ := KA.out.c4
      have e0 := KA.out.frozen 0
      have e1 := KA.out.frozen 1
      have e2 := KA.out.frozen 2
      have e3 := KA.out.frozen 3
      have hrw := HWR.out
      replace HU := Lib.hid (own_set4 (own_below o1 (Below.refl _ _) (Nat.le_refl _)) KA.out (by decide) (.slice Ar T.n cr) (.slice Dr T.m dr) (.int .i64 T.c) (.slice Er T.p er))
      replace HV := Lib.hid (own_set4 (own_below o2 (Below.refl _ _) (Nat.le_refl _)) KA.out (by decide) (.slice Ar T.n cr) (.slice Dr T.m dr) (.int .i64 T.c) (.slice Er T.p er))
      replace HP := Lib.hid (own_set4 (own_below o3 (Below.refl _ _) (Nat.le_refl _)) KA.out (by decide) (.slice Ar T.n cr) (.slice Dr T.m dr) (.int .i64 T.c) (.slice Er T.p er))
      replace KR := Lib.hid (((((KR.out.far (p := ⟨w4.heap.size, 0, none⟩) (by show w.heap.size ≠ w4.heap.size; omega) (.slice Ar T.n cr)).far (p := ⟨w4.heap.size, 1, none⟩) (by show w.heap.size ≠ w4.heap.size; omega) (.slice Dr T.m dr)).far (p := ⟨w4.heap.size, 2, none⟩) (by show w.heap.size ≠ w4.heap.size; omega) (.int .i64 T.c)).far (p := ⟨w4.heap.size, 3, none⟩) (by show w.heap.size ≠ w4.heap.size; omega) (.slice Er T.p er)))
      replace C0 := Lib.hid (((((C0.out.setCell (p := ⟨w4.heap.size, 0, none⟩) HNE.out (.slice Ar T.n cr)).setCell (p := ⟨w4.heap.size, 1, none⟩) HNE.out (.slice Dr T.m dr)).setCell (p := ⟨w4.heap.size, 2, none⟩) HNE.out (.int .i64 T.c)).setCell (p := ⟨w4.heap.size, 3, none⟩) HNE.out (.slice Er T.p er)))
      replace G0 := Lib.hid ((only_far (only_far (only_far (only_far G0.out (p := ⟨w4.heap.size, 0, none⟩) (Nat.le_of_lt HWR.out) (.slice Ar T.n cr)) (p := ⟨w4.heap.size, 1, none⟩) (Nat.le_of_lt HWR.out) (.slice Dr T.m dr)) (p := ⟨w4.heap.size, 2, none⟩) (Nat.le_of_lt HWR.out) (.int .i64 T.c)) (p := ⟨w4.heap.size, 3, none⟩) (Nat.le_of_lt HWR.out) (.slice Er T.p er)))
      replace KA := Lib.hid (blk_set4 KA.out (.slice Ar T.n cr) (.slice Dr T.m dr) (.int .i64 T.c) (.slice Er T.p er))
      clear o1 o2 o3 hrw eT
      obtain ⟨a0, a1, a2, a3⟩ := KA.out.c4
      obtain ⟨r0, r1, r2, r3⟩ := KR.out.c4
      have f0 := KR.out.frozen 0
      have f1 := KR.out.frozen 1
      have f2 := KR.out.frozen 2
      have f3 := KR.out.frozen 3
      have C1 := Lib.hid ((((C0.out.setCell (p := ⟨w.heap.size, 0, none⟩) hlt (.slice Ar T.n cr)).setCell (p := ⟨w.heap.size, 1, none⟩) hlt (.slice Dr T.m dr)).setCell (p := ⟨w.heap.size, 2, none⟩) hlt (.int .i64 T.c)).setCell (p := ⟨w.heap.size, 3, none⟩) hlt (.slice Er T.p er))
      have G1 := Lib.hid (only_far (only_far (only_far (only_far G0.out (p := ⟨w.heap.size, 0, none⟩) (Nat.le_refl _) (.slice Ar T.n cr)) (p := ⟨w.heap.size, 1, none⟩) (Nat.le_refl _) (.slice Dr T.m dr)) (p := ⟨w.heap.size, 2, none⟩) (Nat.le_refl _) (.int .i64 T.c)) (p := ⟨w.heap.size, 3, none⟩) (Nat.le_refl _) (.slice Er T.p er))
      have O1 := Lib.hid (own_set4 HU.out KR.out (by decide) (.slice Ar T.n cr) (.slice Dr T.m dr) (.int .i64 T.c) (.slice Er T.p er))
      have O2 := Lib.hid (own_set4 HV.out KR.out (by decide) (.slice Ar T.n cr) (.slice Dr T.m dr) (.int .i64 T.c) (.slice Er T.p er))
      have O3 := Lib.hid (own_set4 HP.out KR.out (by decide) (.slice Ar T.n cr) (.slice Dr T.m dr) (.int .i64 T.c) (.slice Er T.p er))
      go_wp2_with fail
      obtain ⟨m0, m1, m2, m3⟩ := (blk_set4 KR.out (.slice Ar T.n cr) (.slice Dr T.m dr) (.int .i64 T.c) (.slice Er T.p er)).c4
      exact bodyPost_ret (v := .agg #[(.slice Ar T.n cr), (.slice Dr T.m dr), (.int .i64 T.c), (.slice Er T.p er)]) (by simp [results, Try.results67, go_sem, m0, m1, m2, m3]) rfl
        ⟨_, ⟨_, _, _, _, _, _, _⟩, rfl, ⟨_, _, _, rfl, O1.out, O2.out, O3.out⟩, HZT.out, C1.out.le (by omega), G1.out⟩
end Go.Proofs.Ytjcepipgjpaclaa

namespace Go.Proofs.Ytjcepipgjpaclaa
open Go.RowKit

/-- A transition and a number are handed out, in new memory. -/
def DrawnTI (w : World) (e : Ending) (w' : World) : Prop := ∃ (r : Value) (t : TrN) (L : Int), e = .returned (.tuple #[r, .int .i64 L]) ∧ OwnA w' w.heap.size r t ∧ (t.n ≤ 13 ∧ t.m ≤ 13 ∧ t.p ≤ 13) ∧ (-1000000 ≤ L ∧ L ≤ 1000000) ∧ Below w.heap.size w w'
def DrawnT (w : World) (e : Ending) (w' : World) : Prop := ∃ (r : Value) (t : TrN), e = .returned r ∧ OwnA w' w.heap.size r t ∧ (t.n ≤ 13 ∧ t.m ≤ 13 ∧ t.p ≤ 13) ∧ Below w.heap.size w w'
/-- A new source behind a result's cells. -/
theorem cur_new2 (w : World) (A : Option Addr) (n c : Nat) (o : Obj) (h : RdB w w.heap.size A n) (hn : n ≤ 9223372036854775807) : Cur ((w.alloc o).alloc (.cells #[.slice A n c, .int .i64 0, .int .u64 0] 81)) w.heap.size (w.heap.size + 1) 0 := by
  refine ⟨by omega, A, n, c, 0, 0, ?_, hn, Nat.le_refl _, fun h0 => ?_⟩
  · simpa using Blk.new (w.alloc o) 81 #[.slice A n c, .int .i64 0, .int .u64 0]
  · obtain ⟨b, off, rfl, hb, hc⟩ := h h0
    refine ⟨b, off, rfl, hb, fun j hj => ?_⟩
    obtain ⟨z, z0, z1, hz⟩ := hc j hj
    exact ⟨z, z0, z1, cell_new (cell_new hz _) _⟩
set_option maxRecDepth 100000 in
set_option maxHeartbeats 4000000 in
theorem DrawIsTransition_any (A : Option Addr) (n c : Nat) (w : World) (h : RdB w w.heap.size A n) (hn : n ≤ 9223372036854775807) :
    Calls Try.prog 38 #[.slice A n c] w (DrawnT w) := by
  have C0 := Lib.hid (cur_new2 w A n c (.cells #[.slice none 0 0, .slice none 0 0, .int .i64 0, .slice none 0 0] 27) h hn)
  have KR := Lib.hid ((Blk.new w 27 #[.slice none 0 0, .slice none 0 0, .int .i64 0, .slice none 0 0]).alloc (.cells #[.slice A n c, .int .i64 0, .int .u64 0] 81))
  have HB := Lib.hid (below_new (below_new (Below.refl w.heap.size w) (.cells #[.slice none 0 0, .slice none 0 0, .int .i64 0, .slice none 0 0] 27)) (.cells #[.slice A n c, .int .i64 0, .int .u64 0] 81))
  clear h hn
  go_enter Try.func38, Try.ntmps38
  go_wp2_with fail
  refine (transition_any w.heap.size (w.heap.size + 1) 0 _ C0.out (by omega)).mono ?_
  rintro e w1 ⟨r, t, rfl, oa, hsz, hc, hg⟩
  have HS := Lib.hid hsz
  have hz2 := HB.out.size
  replace HB := Lib.hid (HB.out.grown hg hz2 (fun k hk => by injection hk with hk; omega))
  replace C0 := Lib.hid hc
  replace KR := Lib.hid (KR.out.grown' hg (by omega))
  obtain ⟨Ar, cr, Dr, dr, Er, er, rfl, o1, o2, o3⟩ := (oa.base (lo2 := w.heap.size + 2) (by simp)).form
  have O1 := Lib.hid o1
  have O2 := Lib.hid o2
  have O3 := Lib.hid o3
  clear o1 o2 o3 oa hc hg hsz hz2
  obtain ⟨r0, r1, r2, r3⟩ := KR.out.c4
  have f0 := KR.out.frozen 0
  have f1 := KR.out.frozen 1
  have f2 := KR.out.frozen 2
  have f3 := KR.out.frozen 3
  have P1 := Lib.hid (own_set4 O1.out KR.out (by decide) (.slice Ar t.n cr) (.slice Dr t.m dr) (.int .i64 t.c) (.slice Er t.p er))
  have P2 := Lib.hid (own_set4 O2.out KR.out (by decide) (.slice Ar t.n cr) (.slice Dr t.m dr) (.int .i64 t.c) (.slice Er t.p er))
  have P3 := Lib.hid (own_set4 O3.out KR.out (by decide) (.slice Ar t.n cr) (.slice Dr t.m dr) (.int .i64 t.c) (.slice Er t.p er))
  have HB9 := Lib.hid (below_set4 HB.out (Nat.le_refl w.heap.size) (.slice Ar t.n cr) (.slice Dr t.m dr) (.int .i64 t.c) (.slice Er t.p er))
  have KS := Lib.hid (blk_set4 KR.out (.slice Ar t.n cr) (.slice Dr t.m dr) (.int .i64 t.c) (.slice Er t.p er))
  go_wp2_with fail
  obtain ⟨m0, m1, m2, m3⟩ := KS.out.c4
  exact bodyPost_ret (v := .agg #[.slice Ar t.n cr, .slice Dr t.m dr, .int .i64 t.c, .slice Er t.p er]) (by simp [results, Try.results38, go_sem, m0, m1, m2, m3]) rfl
    ⟨_, t, rfl, ⟨_, _, _, rfl, own_base P1.out (by omega), own_base P2.out (by omega), own_base P3.out (by omega)⟩, HS.out, HB9.out⟩
set_option maxRecDepth 100000 in
set_option maxHeartbeats 4000000 in
theorem DrawConflictPairs_any (A : Option Addr) (n c : Nat) (w : World) (h : RdB w w.heap.size A n) (hn : n ≤ 9223372036854775807) :
    Calls Try.prog 8 #[.slice A n c] w (DrawnTI w) := by
  have C0 := Lib.hid (cur_new2 w A n c (.cells #[.slice none 0 0, .slice none 0 0, .int .i64 0, .slice none 0 0] 27) h hn)
  have KR := Lib.hid ((Blk.new w 27 #[.slice none 0 0, .slice none 0 0, .int .i64 0, .slice none 0 0]).alloc (.cells #[.slice A n c, .int .i64 0, .int .u64 0] 81))
  have HB := Lib.hid (below_new (below_new (Below.refl w.heap.size w) (.cells #[.slice none 0 0, .slice none 0 0, .int .i64 0, .slice none 0 0] 27)) (.cells #[.slice A n c, .int .i64 0, .int .u64 0] 81))
  clear h hn
  go_enter Try.func8, Try.ntmps8
  go_wp2_with fail
  refine (transition_any w.heap.size (w.heap.size + 1) 0 _ C0.out (by omega)).mono ?_
  rintro e w1 ⟨r, t, rfl, oa, hsz, hc, hg⟩
  have HS := Lib.hid hsz
  have hz2 := HB.out.size
  replace HB := Lib.hid (HB.out.grown hg hz2 (fun k hk => by injection hk with hk; omega))
  replace C0 := Lib.hid hc
  replace KR := Lib.hid (KR.out.grown' hg (by omega))
  obtain ⟨Ar, cr, Dr, dr, Er, er, rfl, o1, o2, o3⟩ := (oa.base (lo2 := w.heap.size + 2) (by simp)).form
  have O1 := Lib.hid o1
  have O2 := Lib.hid o2
  have O3 := Lib.hid o3
  clear o1 o2 o3 oa hc hg hsz hz2
  have KA := Lib.hid (Blk.new w1 27 #[.slice Ar t.n cr, .slice Dr t.m dr, .int .i64 t.c, .slice Er t.p er])
  have HW1 := Lib.hid C0.out.lt
  have HWR := Lib.hid KR.out.lt
  replace C0 := Lib.hid (C0.out.alloc (.cells #[.slice Ar t.n cr, .slice Dr t.m dr, .int .i64 t.c, .slice Er t.p er] 27))
  replace KR := Lib.hid (KR.out.alloc (.cells #[.slice Ar t.n cr, .slice Dr t.m dr, .int .i64 t.c, .slice Er t.p er] 27))
  replace HB := Lib.hid (below_new HB.out (.cells #[.slice Ar t.n cr, .slice Dr t.m dr, .int .i64 t.c, .slice Er t.p er] 27))
  replace O1 := Lib.hid (O1.out.alloc (.cells #[.slice Ar t.n cr, .slice Dr t.m dr, .int .i64 t.c, .slice Er t.p er] 27))
  replace O2 := Lib.hid (O2.out.alloc (.cells #[.slice Ar t.n cr, .slice Dr t.m dr, .int .i64 t.c, .slice Er t.p er] 27))
  replace O3 := Lib.hid (O3.out.alloc (.cells #[.slice Ar t.n cr, .slice Dr t.m dr, .int .i64 t.c, .slice Er t.p er] 27))
  go_wp2_with fail
  obtain ⟨a0, a1, a2, a3⟩ := KA.out.c4
  refine wp_region_held_drew (S := fun W => W.cell? ⟨w1.heap.size, 0, none⟩ = some (.slice Ar t.n cr) ∧ W.cell? ⟨w1.heap.size, 1, none⟩ = some (.slice Dr t.m dr) ∧ W.cell? ⟨w1.heap.size, 2, none⟩ = some (.int .i64 t.c) ∧ W.cell? ⟨w1.heap.size, 3, none⟩ = some (.slice Er t.p er)) (by kernel_rfl) ⟨a0, a1, a2, a3⟩ (fun hHeld => ?_)
  clear a0 a1 a2 a3
  refine take_at (i := 0) (oi := _) 11 (v := .agg #[.slice Ar t.n cr, .slice Dr t.m dr, .int .i64 t.c, .slice Er t.p er]) rfl rfl (by kernel_rfl) (by kernel_rfl) (by kernel_rfl) (fun _ _ _ h => h) (Or.inl ⟨by rfl, ?_⟩) hHeld ?_
  · (intro w hSw; (try dsimp only at hSw); go_split_ands; go_simp)
  simp only [List.setIfInBounds_toArray, List.set_cons_zero, List.set_cons_succ]
  refine take_at (i := 1) (oi := _) 12 (v := .pointer (some ⟨w.heap.size + 1, 0, none⟩)) rfl rfl (by kernel_rfl) (by kernel_rfl) (by kernel_rfl) (fun _ _ _ h => h) (Or.inl ⟨by rfl, ?_⟩) hHeld ?_
  · (intro w hSw; (try dsimp only at hSw); go_split_ands; go_simp)
  simp only [List.setIfInBounds_toArray, List.set_cons_zero, List.set_cons_succ]
  refine wpAnyH_ready (rs := [2]) (by kernel_rfl) (by simp) ?_
  refine AllReadyH.cons (o := _) rfl (fun K9 hK => ?_) AllReadyH.nil
  go_simp
  replace C0 := Lib.hid (C0.out.drewN 1)
  replace KR := Lib.hid (KR.out.drewN 1)
  replace KA := Lib.hid (KA.out.drewN 1)
  replace HB := Lib.hid (below_drewN HB.out 1)
  replace O1 := Lib.hid (own_drewN O1.out 1)
  replace O2 := Lib.hid (own_drewN O2.out 1)
  replace O3 := Lib.hid (own_drewN O3.out 1)
  refine (leastDistance_any w.heap.size (w.heap.size + 1) (0 + 200000) _ C0.out (by omega)).mono ?_
  rintro e w2 ⟨L, hL, rfl, hc, hg⟩
  replace HB := Lib.hid (HB.out.grown hg HB.out.size (fun k hk => by injection hk with hk; omega))
  replace KR := Lib.hid (KR.out.grown' hg (by omega))
  replace KA := Lib.hid (KA.out.grown' hg (by have := HW1.out; omega))
  replace O1 := Lib.hid (own_ask O1.out (by omega) hg)
  replace O2 := Lib.hid (own_ask O2.out (by omega) hg)
  replace O3 := Lib.hid (own_ask O3.out (by omega) hg)
  refine hK.out _ _ KA.out.c4 (fun hHeld => ?_)
  clear hK K9 hc hg C0
  try simp only [Act.put, List.setIfInBounds_toArray, List.set_cons_zero, List.set_cons_succ]
  obtain ⟨r0, r1, r2, r3⟩ := KR.out.c4
  have f0 := KR.out.frozen 0
  have f1 := KR.out.frozen 1
  have f2 := KR.out.frozen 2
  have f3 := KR.out.frozen 3
  have P1 := Lib.hid (own_set4 O1.out KR.out (by decide) (.slice Ar t.n cr) (.slice Dr t.m dr) (.int .i64 t.c) (.slice Er t.p er))
  have P2 := Lib.hid (own_set4 O2.out KR.out (by decide) (.slice Ar t.n cr) (.slice Dr t.m dr) (.int .i64 t.c) (.slice Er t.p er))
  have P3 := Lib.hid (own_set4 O3.out KR.out (by decide) (.slice Ar t.n cr) (.slice Dr t.m dr) (.int .i64 t.c) (.slice Er t.p er))
  have HB9 := Lib.hid (below_set4 HB.out (Nat.le_refl w.heap.size) (.slice Ar t.n cr) (.slice Dr t.m dr) (.int .i64 t.c) (.slice Er t.p er))
  have KS := Lib.hid (blk_set4 KR.out (.slice Ar t.n cr) (.slice Dr t.m dr) (.int .i64 t.c) (.slice Er t.p er))
  have KA9 := Lib.hid ((((KA.out.far (p := ⟨w.heap.size, 0, none⟩) (by show w1.heap.size ≠ w.heap.size; have := HWR.out; omega) (.slice Ar t.n cr)).far (p := ⟨w.heap.size, 1, none⟩) (by show w1.heap.size ≠ w.heap.size; have := HWR.out; omega) (.slice Dr t.m dr)).far (p := ⟨w.heap.size, 2, none⟩) (by show w1.heap.size ≠ w.heap.size; have := HWR.out; omega) (.int .i64 t.c)).far (p := ⟨w.heap.size, 3, none⟩) (by show w1.heap.size ≠ w.heap.size; have := HWR.out; omega) (.slice Er t.p er))
  refine wpAnyH_ready (rs := [3]) (by kernel_rfl) (by simp) ?_
  refine AllReadyH.cons (o := _) rfl (fun K9 hK => ?_) AllReadyH.nil
  go_simp
  refine hK.out _ _ KA9.out.c4 (fun hHeld => ?_)
  clear hK K9
  try simp only [Act.put, List.setIfInBounds_toArray, List.set_cons_zero, List.set_cons_succ]
  refine wpAnyH_ready (rs := [4]) (by kernel_rfl) (by simp) ?_
  refine AllReadyH.cons (o := _) rfl (fun K9 hK => ?_) AllReadyH.nil
  go_simp
  refine hK.out _ _ KA9.out.c4 (fun hHeld => ?_)
  clear hK K9
  refine wpAnyH_done (by kernel_rfl) ?_ _
  clear hHeld
  go_wp2_with fail
  obtain ⟨m0, m1, m2, m3⟩ := KS.out.c4
  exact bodyPost_ret (v := .tuple #[.agg #[.slice Ar t.n cr, .slice Dr t.m dr, .int .i64 t.c, .slice Er t.p er], .int .i64 L]) (by simp [results, Try.results8, go_sem, m0, m1, m2, m3]) rfl
    ⟨_, t, L, rfl, ⟨_, _, _, rfl, own_base P1.out (by omega), own_base P2.out (by omega), own_base P3.out (by omega)⟩, HS.out, hL, HB9.out⟩
end Go.Proofs.Ytjcepipgjpaclaa

namespace Go.Proofs.Ytjcepipgjpaclaa
open Go.RowKit

set_option maxRecDepth 100000 in
set_option maxHeartbeats 4000000 in
theorem DrawBestSwap_any (A : Option Addr) (n c : Nat) (w : World) (h : RdB w w.heap.size A n) (hn : n ≤ 9223372036854775807) :
    Calls Try.prog 56 #[.slice A n c] w (DrawnT w) := by
  have KR := Lib.hid (Blk.new w 27 #[.slice none 0 0, .slice none 0 0, .int .i64 0, .slice none 0 0])
  have HB := Lib.hid (below_new (Below.refl w.heap.size w) (.cells #[.slice none 0 0, .slice none 0 0, .int .i64 0, .slice none 0 0] 27))
  have HR := Lib.hid (show RdB (w.alloc (.cells #[.slice none 0 0, .slice none 0 0, .int .i64 0, .slice none 0 0] 27)) (w.alloc (.cells #[.slice none 0 0, .slice none 0 0, .int .i64 0, .slice none 0 0] 27)).heap.size A n from h.kept HB.out)
  clear h
  go_enter Try.func56, Try.ntmps56
  go_wp2_with fail
  refine (DrawIsTransition_any A n c _ HR.out hn).mono ?_
  rintro e w1 ⟨r, t, rfl, oa, hsz, hb⟩
  have hz2 := HB.out.size
  replace HB := Lib.hid (below_on HB.out hb)
  replace KR := Lib.hid (KR.out.on hb)
  have HS := Lib.hid hsz
  obtain ⟨Ar, cr, Dr, dr, Er, er, rfl, o1, o2, o3⟩ := (oa.base hz2).form
  have O1 := Lib.hid o1
  have O2 := Lib.hid o2
  have O3 := Lib.hid o3
  clear o1 o2 o3 oa hb hsz hz2
  obtain ⟨r0, r1, r2, r3⟩ := KR.out.c4
  have f0 := KR.out.frozen 0
  have f1 := KR.out.frozen 1
  have f2 := KR.out.frozen 2
  have f3 := KR.out.frozen 3
  have P1 := Lib.hid (own_set4 O1.out KR.out (by decide) (.slice Ar t.n cr) (.slice Dr t.m dr) (.int .i64 t.c) (.slice Er t.p er))
  have P2 := Lib.hid (own_set4 O2.out KR.out (by decide) (.slice Ar t.n cr) (.slice Dr t.m dr) (.int .i64 t.c) (.slice Er t.p er))
  have P3 := Lib.hid (own_set4 O3.out KR.out (by decide) (.slice Ar t.n cr) (.slice Dr t.m dr) (.int .i64 t.c) (.slice Er t.p er))
  have HB9 := Lib.hid (below_set4 HB.out (Nat.le_refl w.heap.size) (.slice Ar t.n cr) (.slice Dr t.m dr) (.int .i64 t.c) (.slice Er t.p er))
  have KS := Lib.hid (blk_set4 KR.out (.slice Ar t.n cr) (.slice Dr t.m dr) (.int .i64 t.c) (.slice Er t.p er))
  go_wp2_with fail
  obtain ⟨m0, m1, m2, m3⟩ := KS.out.c4
  exact bodyPost_ret (v := .agg #[.slice Ar t.n cr, .slice Dr t.m dr, .int .i64 t.c, .slice Er t.p er]) (by simp [results, Try.results56, go_sem, m0, m1, m2, m3]) rfl
    ⟨_, t, rfl, ⟨_, _, _, rfl, P1.out, P2.out, P3.out⟩, HS.out, HB9.out⟩
end Go.Proofs.Ytjcepipgjpaclaa

namespace Go.Proofs.Ytjcepipgjpaclaa
open Go.RowKit

set_option maxRecDepth 100000 in
set_option maxHeartbeats 4000000 in
theorem performer_any (B g N n c : Nat) (A : Option Addr) (w : World) (h : Cur w B g N) (hN : N ≤ 1000000000) (hn : n ≤ 1000) : Calls Try.prog 118 #[.pointer (some ⟨g, 0, none⟩), .slice A n c] w (HandsAny B g (N + 6) w) := by
  have C0 := Lib.hid h
  have G0 := Lib.hid (World.grownBy.refl w (some g))
  clear h
  go_enter Try.func118, Try.ntmps118
  go_wp2_with fail
  refine (pick_any B g N 16 _ C0.out (by omega) (by omega)).mono ?_
  rintro e w1 ⟨q, q0, q1, rfl, hc, hg⟩
  simp [pickHi] at q1
  replace C0 := Lib.hid hc
  replace G0 := Lib.hid (grow_trans G0.out hg)
  clear hc hg
  obtain ⟨d, hd, hd2, d0, d1⟩ : ∃ d : Int, q.tdiv 15 = d ∧ q / 15 = d ∧ 0 ≤ d ∧ d ≤ 1 := ⟨q / 15, Int.tdiv_eq_ediv_of_nonneg q0, rfl, by omega, by omega⟩
  have i1 := IntWalk.i64_in d (by omega)
  have i2 := IntWalk.i64_in ((n : Int) + d) (by omega)
  go_wp2_with fail
  refine (pick_any B g (N + 2) ((n : Int) + d) _ C0.out (by omega) (by omega)).mono ?_
  rintro e w2 ⟨r, r0, r1, rfl, hc, hg⟩
  have r2 : r ≤ 1001 := by unfold pickHi at r1; split at r1 <;> omega
  replace C0 := Lib.hid hc
  replace G0 := Lib.hid (grow_trans G0.out hg)
  clear hc hg r1 hd hd2 q0 q1
  go_wp2_with fail
  refine (pick_any B g (N + 2 + 2) 24 _ C0.out (by omega) (by omega)).mono ?_
  rintro e w3 ⟨s, s0, s1, rfl, hc, hg⟩
  simp [pickHi] at s1
  replace C0 := Lib.hid hc
  replace G0 := Lib.hid (grow_trans G0.out hg)
  clear hc hg
  obtain ⟨f, hf, hf2, f0, f1⟩ : ∃ d : Int, s.tdiv 23 = d ∧ s / 23 = d ∧ 0 ≤ d ∧ d ≤ 1 := ⟨s / 23, Int.tdiv_eq_ediv_of_nonneg s0, rfl, by omega, by omega⟩
  have i3 := IntWalk.i64_in f (by omega)
  have i4 := IntWalk.i64_in (r - f) (by omega)
  go_wp2_with fail
  go_ret
  exact ⟨r - f, by omega, rfl, C0.out, G0.out⟩
set_option maxRecDepth 100000 in
set_option maxHeartbeats 4000000 in
theorem DrawFitsStep_any (A : Option Addr) (n c : Nat) (w : World) (h : RdB w w.heap.size A n) (hn : n ≤ 9223372036854775807) :
    Calls Try.prog 62 #[.slice A n c] w (DrawnTI w) := by
  have C0 := Lib.hid (cur_new2 w A n c (.cells #[.slice none 0 0, .slice none 0 0, .int .i64 0, .slice none 0 0] 27) h hn)
  have KR := Lib.hid ((Blk.new w 27 #[.slice none 0 0, .slice none 0 0, .int .i64 0, .slice none 0 0]).alloc (.cells #[.slice A n c, .int .i64 0, .int .u64 0] 81))
  have HB := Lib.hid (below_new (below_new (Below.refl w.heap.size w) (.cells #[.slice none 0 0, .slice none 0 0, .int .i64 0, .slice none 0 0] 27)) (.cells #[.slice A n c, .int .i64 0, .int .u64 0] 81))
  clear h hn
  go_enter Try.func62, Try.ntmps62
  go_wp2_with fail
  refine (transition_any w.heap.size (w.heap.size + 1) 0 _ C0.out (by omega)).mono ?_
  rintro e w1 ⟨r, t, rfl, oa, hsz, hc, hg⟩
  have HS := Lib.hid hsz
  have hz2 := HB.out.size
  replace HB := Lib.hid (HB.out.grown hg hz2 (fun k hk => by injection hk with hk; omega))
  replace C0 := Lib.hid hc
  replace KR := Lib.hid (KR.out.grown' hg (by omega))
  obtain ⟨Ar, cr, Dr, dr, Er, er, rfl, o1, o2, o3⟩ := (oa.base (lo2 := w.heap.size + 2) (by simp)).form
  have O1 := Lib.hid o1
  have O2 := Lib.hid o2
  have O3 := Lib.hid o3
  clear o1 o2 o3 oa hc hg hsz hz2
  go_wp2_with fail
  refine (stepOf_any w.heap.size (w.heap.size + 1) (0 + 200000) _ C0.out (by omega)).mono ?_
  rintro e w2 ⟨L, hL, rfl, hc, hg⟩
  replace HB := Lib.hid (HB.out.grown hg HB.out.size (fun k hk => by injection hk with hk; omega))
  replace KR := Lib.hid (KR.out.grown' hg (by omega))
  replace O1 := Lib.hid (own_ask O1.out (by omega) hg)
  replace O2 := Lib.hid (own_ask O2.out (by omega) hg)
  replace O3 := Lib.hid (own_ask O3.out (by omega) hg)
  replace C0 := Lib.hid hc
  clear hc hg
  obtain ⟨r0, r1, r2, r3⟩ := KR.out.c4
  have f0 := KR.out.frozen 0
  have f1 := KR.out.frozen 1
  have f2 := KR.out.frozen 2
  have f3 := KR.out.frozen 3
  have P1 := Lib.hid (own_set4 O1.out KR.out (by decide) (.slice Ar t.n cr) (.slice Dr t.m dr) (.int .i64 t.c) (.slice Er t.p er))
  have P2 := Lib.hid (own_set4 O2.out KR.out (by decide) (.slice Ar t.n cr) (.slice Dr t.m dr) (.int .i64 t.c) (.slice Er t.p er))
  have P3 := Lib.hid (own_set4 O3.out KR.out (by decide) (.slice Ar t.n cr) (.slice Dr t.m dr) (.int .i64 t.c) (.slice Er t.p er))
  have HB9 := Lib.hid (below_set4 HB.out (Nat.le_refl w.heap.size) (.slice Ar t.n cr) (.slice Dr t.m dr) (.int .i64 t.c) (.slice Er t.p er))
  have KS := Lib.hid (blk_set4 KR.out (.slice Ar t.n cr) (.slice Dr t.m dr) (.int .i64 t.c) (.slice Er t.p er))
  go_wp2_with fail
  obtain ⟨m0, m1, m2, m3⟩ := KS.out.c4
  exact bodyPost_ret (v := .tuple #[.agg #[.slice Ar t.n cr, .slice Dr t.m dr, .int .i64 t.c, .slice Er t.p er], .int .i64 L]) (by simp [results, Try.results62, go_sem, m0, m1, m2, m3]) rfl
    ⟨_, t, L, rfl, ⟨_, _, _, rfl, own_base P1.out (by omega), own_base P2.out (by omega), own_base P3.out (by omega)⟩, HS.out, hL, HB9.out⟩
/-- A transition and two numbers are handed out, in new memory. -/
def DrawnTII (w : World) (e : Ending) (w' : World) : Prop := ∃ (r : Value) (t : TrN) (a b : Int), e = .returned (.tuple #[r, .int .i64 a, .int .i64 b]) ∧ OwnA w' w.heap.size r t ∧ (t.n ≤ 13 ∧ t.m ≤ 13 ∧ t.p ≤ 13) ∧ ((-1000000 ≤ a ∧ a ≤ 1000000) ∧ -1000000 ≤ b ∧ b ≤ 1000000) ∧ Below w.heap.size w w'
set_option maxRecDepth 100000 in
set_option maxHeartbeats 4000000 in
theorem DrawSwapPlaces_any (A : Option Addr) (n c : Nat) (w : World) (h : RdB w w.heap.size A n) (hn : n ≤ 9223372036854775807) :
    Calls Try.prog 65 #[.slice A n c] w (DrawnTII w) := by
  have C0 := Lib.hid (cur_new2 w A n c (.cells #[.slice none 0 0, .slice none 0 0, .int .i64 0, .slice none 0 0] 27) h hn)
  have KR := Lib.hid ((Blk.new w 27 #[.slice none 0 0, .slice none 0 0, .int .i64 0, .slice none 0 0]).alloc (.cells #[.slice A n c, .int .i64 0, .int .u64 0] 81))
  have HB := Lib.hid (below_new (below_new (Below.refl w.heap.size w) (.cells #[.slice none 0 0, .slice none 0 0, .int .i64 0, .slice none 0 0] 27)) (.cells #[.slice A n c, .int .i64 0, .int .u64 0] 81))
  clear h hn
  go_enter Try.func65, Try.ntmps65
  go_wp2_with fail
  refine (transition_any w.heap.size (w.heap.size + 1) 0 _ C0.out (by omega)).mono ?_
  rintro e w1 ⟨r, t, rfl, oa, hsz, hc, hg⟩
  have HS := Lib.hid hsz
  have hz2 := HB.out.size
  replace HB := Lib.hid (HB.out.grown hg hz2 (fun k hk => by injection hk with hk; omega))
  replace C0 := Lib.hid hc
  replace KR := Lib.hid (KR.out.grown' hg (by omega))
  obtain ⟨Ar, cr, Dr, dr, Er, er, rfl, o1, o2, o3⟩ := (oa.base (lo2 := w.heap.size + 2) (by simp)).form
  have O1 := Lib.hid o1
  have O2 := Lib.hid o2
  have O3 := Lib.hid o3
  clear o1 o2 o3 oa hc hg hsz hz2
  have KA := Lib.hid (Blk.new w1 27 #[.slice Ar t.n cr, .slice Dr t.m dr, .int .i64 t.c, .slice Er t.p er])
  have HW1 := Lib.hid C0.out.lt
  have HWR := Lib.hid KR.out.lt
  replace C0 := Lib.hid (C0.out.alloc (.cells #[.slice Ar t.n cr, .slice Dr t.m dr, .int .i64 t.c, .slice Er t.p er] 27))
  replace KR := Lib.hid (KR.out.alloc (.cells #[.slice Ar t.n cr, .slice Dr t.m dr, .int .i64 t.c, .slice Er t.p er] 27))
  replace HB := Lib.hid (below_new HB.out (.cells #[.slice Ar t.n cr, .slice Dr t.m dr, .int .i64 t.c, .slice Er t.p er] 27))
  replace O1 := Lib.hid (O1.out.alloc (.cells #[.slice Ar t.n cr, .slice Dr t.m dr, .int .i64 t.c, .slice Er t.p er] 27))
  replace O2 := Lib.hid (O2.out.alloc (.cells #[.slice Ar t.n cr, .slice Dr t.m dr, .int .i64 t.c, .slice Er t.p er] 27))
  replace O3 := Lib.hid (O3.out.alloc (.cells #[.slice Ar t.n cr, .slice Dr t.m dr, .int .i64 t.c, .slice Er t.p er] 27))
  go_wp2_with fail
  obtain ⟨a0, a1, a2, a3⟩ := KA.out.c4
  refine wp_region_held_drew (S := fun W => W.cell? ⟨w1.heap.size, 0, none⟩ = some (.slice Ar t.n cr) ∧ W.cell? ⟨w1.heap.size, 1, none⟩ = some (.slice Dr t.m dr) ∧ W.cell? ⟨w1.heap.size, 2, none⟩ = some (.int .i64 t.c) ∧ W.cell? ⟨w1.heap.size, 3, none⟩ = some (.slice Er t.p er)) (by kernel_rfl) ⟨a0, a1, a2, a3⟩ (fun hHeld => ?_)
  clear a0 a1 a2 a3
  refine take_at (i := 0) (oi := _) 12 (v := .agg #[.slice Ar t.n cr, .slice Dr t.m dr, .int .i64 t.c, .slice Er t.p er]) rfl rfl (by kernel_rfl) (by kernel_rfl) (by kernel_rfl) (fun _ _ _ h => h) (Or.inl ⟨by rfl, ?_⟩) hHeld ?_
  · (intro w hSw; (try dsimp only at hSw); go_split_ands; go_simp)
  simp only [List.setIfInBounds_toArray, List.set_cons_zero, List.set_cons_succ]
  refine take_at (i := 1) (oi := _) 13 (v := .pointer (some ⟨w.heap.size + 1, 0, none⟩)) rfl rfl (by kernel_rfl) (by kernel_rfl) (by kernel_rfl) (fun _ _ _ h => h) (Or.inl ⟨by rfl, ?_⟩) hHeld ?_
  · (intro w hSw; (try dsimp only at hSw); go_split_ands; go_simp)
  simp only [List.setIfInBounds_toArray, List.set_cons_zero, List.set_cons_succ]
  refine take_at (i := 2) (oi := _) 14 (v := .pointer (some ⟨w1.heap.size, 0, none⟩)) rfl rfl (by kernel_rfl) (by kernel_rfl) (by kernel_rfl) (fun _ _ _ h => h) (Or.inl ⟨by rfl, ?_⟩) hHeld ?_
  · (intro w hSw; (try dsimp only at hSw); go_split_ands; go_simp)
  simp only [List.setIfInBounds_toArray, List.set_cons_zero, List.set_cons_succ]
  refine take_at (i := 3) (oi := _) 15 (v := .slice Ar t.n cr) rfl rfl (by kernel_rfl) (by kernel_rfl) (by kernel_rfl) (fun _ _ _ h => h) (Or.inl ⟨by rfl, ?_⟩) hHeld ?_
  · (intro w hSw; (try dsimp only at hSw); go_split_ands; go_simp)
  simp only [List.setIfInBounds_toArray, List.set_cons_zero, List.set_cons_succ]
  refine take_at (i := 5) (oi := _) 17 (v := .pointer (some ⟨w.heap.size + 1, 0, none⟩)) rfl rfl (by kernel_rfl) (by kernel_rfl) (by kernel_rfl) (fun _ _ _ h => h) (Or.inl ⟨by rfl, ?_⟩) hHeld ?_
  · (intro w hSw; (try dsimp only at hSw); go_split_ands; go_simp)
  simp only [List.setIfInBounds_toArray, List.set_cons_zero, List.set_cons_succ]
  refine take_at (i := 6) (oi := _) 18 (v := .pointer (some ⟨w1.heap.size, 0, none⟩)) rfl rfl (by kernel_rfl) (by kernel_rfl) (by kernel_rfl) (fun _ _ _ h => h) (Or.inl ⟨by rfl, ?_⟩) hHeld ?_
  · (intro w hSw; (try dsimp only at hSw); go_split_ands; go_simp)
  simp only [List.setIfInBounds_toArray, List.set_cons_zero, List.set_cons_succ]
  refine take_at (i := 7) (oi := _) 19 (v := .slice Ar t.n cr) rfl rfl (by kernel_rfl) (by kernel_rfl) (by kernel_rfl) (fun _ _ _ h => h) (Or.inl ⟨by rfl, ?_⟩) hHeld ?_
  · (intro w hSw; (try dsimp only at hSw); go_split_ands; go_simp)
  simp only [List.setIfInBounds_toArray, List.set_cons_zero, List.set_cons_succ]
  refine wpAnyH_ready (rs := [4]) (by kernel_rfl) (by simp) ?_
  refine AllReadyH.cons (o := _) rfl (fun K9 hK => ?_) AllReadyH.nil
  go_simp
  replace C0 := Lib.hid (C0.out.drewN 1)
  replace KR := Lib.hid (KR.out.drewN 1)
  replace KA := Lib.hid (KA.out.drewN 1)
  replace HB := Lib.hid (below_drewN HB.out 1)
  replace O1 := Lib.hid (own_drewN O1.out 1)
  replace O2 := Lib.hid (own_drewN O2.out 1)
  replace O3 := Lib.hid (own_drewN O3.out 1)
  refine (performer_any w.heap.size (w.heap.size + 1) (0 + 200000) t.n cr Ar _ C0.out (by omega) (by have := HS.out; omega)).mono ?_
  rintro e w2 ⟨pa, hpa, rfl, hc, hg⟩
  replace HB := Lib.hid (HB.out.grown hg HB.out.size (fun k hk => by injection hk with hk; omega))
  replace KR := Lib.hid (KR.out.grown' hg (by omega))
  replace O1 := Lib.hid (own_ask O1.out (by omega) hg)
  replace O2 := Lib.hid (own_ask O2.out (by omega) hg)
  replace O3 := Lib.hid (own_ask O3.out (by omega) hg)
  replace C0 := Lib.hid hc
  replace KA := Lib.hid (KA.out.grown' hg (by have := HW1.out; omega))
  refine hK.out _ _ KA.out.c4 (fun hHeld => ?_)
  clear hK K9 hc hg
  try simp only [Act.put, List.setIfInBounds_toArray, List.set_cons_zero, List.set_cons_succ]
  refine wpAnyH_ready (rs := [8]) (by kernel_rfl) (by simp) ?_
  refine AllReadyH.cons (o := _) rfl (fun K9 hK => ?_) AllReadyH.nil
  go_simp
  refine (performer_any w.heap.size (w.heap.size + 1) (0 + 200000 + 6) t.n cr Ar _ C0.out (by omega) (by have := HS.out; omega)).mono ?_
  rintro e w3 ⟨pb, hpb, rfl, hc, hg⟩
  replace HB := Lib.hid (HB.out.grown hg HB.out.size (fun k hk => by injection hk with hk; omega))
  replace KR := Lib.hid (KR.out.grown' hg (by omega))
  replace O1 := Lib.hid (own_ask O1.out (by omega) hg)
  replace O2 := Lib.hid (own_ask O2.out (by omega) hg)
  replace O3 := Lib.hid (own_ask O3.out (by omega) hg)
  replace C0 := Lib.hid hc
  replace KA := Lib.hid (KA.out.grown' hg (by have := HW1.out; omega))
  refine hK.out _ _ KA.out.c4 (fun hHeld => ?_)
  clear hK K9 hc hg C0
  try simp only [Act.put, List.setIfInBounds_toArray, List.set_cons_zero, List.set_cons_succ]
  obtain ⟨r0, r1, r2, r3⟩ := KR.out.c4
  have f0 := KR.out.frozen 0
  have f1 := KR.out.frozen 1
  have f2 := KR.out.frozen 2
  have f3 := KR.out.frozen 3
  have P1 := Lib.hid (own_set4 O1.out KR.out (by decide) (.slice Ar t.n cr) (.slice Dr t.m dr) (.int .i64 t.c) (.slice Er t.p er))
  have P2 := Lib.hid (own_set4 O2.out KR.out (by decide) (.slice Ar t.n cr) (.slice Dr t.m dr) (.int .i64 t.c) (.slice Er t.p er))
  have P3 := Lib.hid (own_set4 O3.out KR.out (by decide) (.slice Ar t.n cr) (.slice Dr t.m dr) (.int .i64 t.c) (.slice Er t.p er))
  have HB9 := Lib.hid (below_set4 HB.out (Nat.le_refl w.heap.size) (.slice Ar t.n cr) (.slice Dr t.m dr) (.int .i64 t.c) (.slice Er t.p er))
  have KS := Lib.hid (blk_set4 KR.out (.slice Ar t.n cr) (.slice Dr t.m dr) (.int .i64 t.c) (.slice Er t.p er))
  have KA9 := Lib.hid ((((KA.out.far (p := ⟨w.heap.size, 0, none⟩) (by show w1.heap.size ≠ w.heap.size; have := HWR.out; omega) (.slice Ar t.n cr)).far (p := ⟨w.heap.size, 1, none⟩) (by show w1.heap.size ≠ w.heap.size; have := HWR.out; omega) (.slice Dr t.m dr)).far (p := ⟨w.heap.size, 2, none⟩) (by show w1.heap.size ≠ w.heap.size; have := HWR.out; omega) (.int .i64 t.c)).far (p := ⟨w.heap.size, 3, none⟩) (by show w1.heap.size ≠ w.heap.size; have := HWR.out; omega) (.slice Er t.p er))
  refine wpAnyH_ready (rs := [9]) (by kernel_rfl) (by simp) ?_
  refine AllReadyH.cons (o := _) rfl (fun K9 hK => ?_) AllReadyH.nil
  go_simp
  refine hK.out _ _ KA9.out.c4 (fun hHeld => ?_)
  clear hK K9
  try simp only [Act.put, List.setIfInBounds_toArray, List.set_cons_zero, List.set_cons_succ]
  refine wpAnyH_ready (rs := [10]) (by kernel_rfl) (by simp) ?_
  refine AllReadyH.cons (o := _) rfl (fun K9 hK => ?_) AllReadyH.nil
  go_simp
  refine hK.out _ _ KA9.out.c4 (fun hHeld => ?_)
  clear hK K9
  try simp only [Act.put, List.setIfInBounds_toArray, List.set_cons_zero, List.set_cons_succ]
  refine wpAnyH_ready (rs := [11]) (by kernel_rfl) (by simp) ?_
  refine AllReadyH.cons (o := _) rfl (fun K9 hK => ?_) AllReadyH.nil
  go_simp
  refine hK.out _ _ KA9.out.c4 (fun hHeld => ?_)
  clear hK K9
  refine wpAnyH_done (by kernel_rfl) ?_ _
  clear hHeld
  go_wp2_with fail
  obtain ⟨m0, m1, m2, m3⟩ := KS.out.c4
  exact bodyPost_ret (v := .tuple #[.agg #[.slice Ar t.n cr, .slice Dr t.m dr, .int .i64 t.c, .slice Er t.p er], .int .i64 pa, .int .i64 pb]) (by simp [results, Try.results65, go_sem, m0, m1, m2, m3]) rfl
    ⟨_, t, pa, pb, rfl, ⟨_, _, _, rfl, own_base P1.out (by omega), own_base P2.out (by omega), own_base P3.out (by omega)⟩, HS.out, ⟨hpa, hpb⟩, HB9.out⟩
end Go.Proofs.Ytjcepipgjpaclaa
