/- The contract of the program's SplitCarry. Conditions: the slice can be read, and its length is at most its capacity. -/
import Derived.Test.YtamehlafmfmgmaaSymLaws
import Derived.Test.YtamehlafmfmgmaaStable
import Derived.Test.YtamehlafmfmgmaaAreImpl
import Derived.Test.YtamehlafmfmgmaaCarryApp
import Derived.Test.YtamehlafmfmgmaaTake
import Derived.Test.YtamehlafmfmgmaaIntApp
namespace Go.Proofs.Ytamehlafmfmgmaa
open Go.RowKit

set_option maxRecDepth 100000 in
set_option maxHeartbeats 4000000 in
theorem SplitCarry_any (v : Value) (n B : Nat) (xs : List Int) (i t p : Int) (w : World) (hcp : Cap v) (hv : Rd w B 4 v n xs) (hB : B ≤ w.heap.size) (hn : n ≤ 1099511627776) :
    Calls Try.prog 8 #[v, .int .i64 i, .int .i64 t, .int .i64 p] w fun e w' => ∃ u, e = .returned (.tuple #[u, .bool (spB n xs i t p)]) ∧ w'.ownsRow w.heap.size 52 4 u (spN n xs i t p) (ints (spL n xs i t p)) ∧ Below w.heap.size w w' := by
  obtain ⟨A, c, rfl⟩ := hv.form4
  have Hv := Lib.hid hv
  have Hc := Lib.hid hcp
  have hxl := Lib.hid hv.1
  clear hv hcp
  have x0 := IntWalk.i64_in ((n : Int) - 1) (by omega)
  cases h1 : gcB n xs with
  | false =>
    have hf := Lib.hid (sp_no (sp_no1 (i := i) (t := t) (p := p) h1))
    go_enter Try.func8, Try.ntmps8
    go_wp2_with fail
    refine (AreCarries_any _ n B xs _ Hc.out Hv.out hB hn).mono ?_
    rintro e w1 ⟨rfl, hb1⟩
    rw [h1]
    go_wp2_with fail
    go_ret2
    rw [hf.out.1, hf.out.2.1, hf.out.2.2]
    exact ⟨_, rfl, World.ownsRow_nil _ _ _ _, hb1⟩
  | true =>
    cases h2 : inB i 0 ((n : Int) - 1) with
    | false =>
      have hf := Lib.hid (sp_no (sp_no2 (xs := xs) (t := t) (p := p) h2))
      go_enter Try.func8, Try.ntmps8
      go_wp2_with fail
      refine (AreCarries_any _ n B xs _ Hc.out Hv.out hB hn).mono ?_
      rintro e w1 ⟨rfl, hb1⟩
      rw [h1]
      go_wp2_with fail
      refine (within_any _ _ _ _).mono ?_
      rintro e w' ⟨rfl, rfl⟩
      rw [h2]
      go_wp2_with fail
      go_ret2
      rw [hf.out.1, hf.out.2.1, hf.out.2.2]
      exact ⟨_, rfl, World.ownsRow_nil _ _ _ _, hb1⟩
    | true =>
      cases h3 : inB p 1 12 with
      | false =>
        have hf := Lib.hid (sp_no (sp_no3 (n := n) (xs := xs) (i := i) (t := t) h3))
        go_enter Try.func8, Try.ntmps8
        go_wp2_with fail
        refine (AreCarries_any _ n B xs _ Hc.out Hv.out hB hn).mono ?_
        rintro e w1 ⟨rfl, hb1⟩
        rw [h1]
        go_wp2_with fail
        refine (within_any _ _ _ _).mono ?_
        rintro e w' ⟨rfl, rfl⟩
        rw [h2]
        go_wp2_with fail
        refine (within_any _ _ _ _).mono ?_
        rintro e w' ⟨rfl, rfl⟩
        rw [h3]
        go_wp2_with fail
        go_ret2
        rw [hf.out.1, hf.out.2.1, hf.out.2.2]
        exact ⟨_, rfl, World.ownsRow_nil _ _ _ _, hb1⟩
      | true =>
        have h2' := inB_yes h2
        obtain ⟨k, rfl⟩ := Int.eq_ofNat_of_zero_le h2'.1
        have hkn : k < n := by omega
        have h40 := (gc_yes h1).len
        obtain ⟨b, off, rfl, hbB, hc⟩ := Hv.out.carry (by omega)
        have H4a := Lib.hid (sp_no4 (n := n) (xs := xs) (t := t) (p := p) (k := k))
        have H5a := Lib.hid (sp_no5 (n := n) (xs := xs) (t := t) (p := p) (k := k))
        have HYa := Lib.hid (sp_yes (n := n) (xs := xs) (t := t) (p := p) (k := k) h1 h2 h3)
        have HFa := Lib.hid (spX_flat (n := n) (xs := xs) (t := t) (p := p) (k := k) hxl.out hkn)
        have HOa := Lib.hid (spX_ok (n := n) (xs := xs) (t := t) (p := p) (k := k) hxl.out hkn h1 h3)
        have HSa := Lib.hid (fun Z => sp_sorted (n := n) (xs := xs) (t := t) (p := p) (k := k) (Z := Z) hxl.out hkn)
        have HXa := Lib.hid (show spX xs k t p = (xs ++ [p, cL xs k, t, cT xs k]).set (k * 4 + 3) t from rfl)
        have hval := caB_yes ((gc_yes h1).each k hkn)
        replace hc := hc k hkn
        obtain ⟨P0, eP⟩ : ∃ q, cP xs k = q := ⟨_, rfl⟩
        obtain ⟨L0, eL⟩ : ∃ q, cL xs k = q := ⟨_, rfl⟩
        obtain ⟨F0, eF⟩ : ∃ q, cF xs k = q := ⟨_, rfl⟩
        obtain ⟨T0, eT⟩ : ∃ q, cT xs k = q := ⟨_, rfl⟩
        rw [eP, eL, eF, eT] at hc hval
        rw [eF, eT] at H4a HYa
        rw [eP] at H5a HYa
        rw [eP, eL, eF, eT] at HFa HOa HSa
        rw [eL, eT] at HXa
        clear eP eL eF eT
        have i0 : (0 : Int) ≤ (k : Int) := by omega
        have i1 : (k : Int) < (n : Int) := by omega
        obtain ⟨_, _, hv1, hv2, hv3⟩ := hval
        cases h4 : inB t (F0 + 1) (T0 - 1) with
        | false =>
          have hf := Lib.hid (sp_no (H4a.out h4))
          have h4' := inB_no h4
          by_cases hlt : t ≤ F0
          · have hd := (show decide (t ≤ F0) = true by simpa using hlt)
            go_enter Try.func8, Try.ntmps8
            go_wp2_with fail
            refine (AreCarries_any _ n B xs _ Hc.out Hv.out hB hn).mono ?_
            rintro e w1 ⟨rfl, hb1⟩
            rw [h1]
            have c0 := (hb1.cell (p := ⟨b, off + k * 4, none⟩) (Nat.lt_of_lt_of_le hbB hB)).trans hc.1
            have c1 := (hb1.cell (p := ⟨b, off + k * 4 + 1, none⟩) (Nat.lt_of_lt_of_le hbB hB)).trans hc.2.1
            have c2 := (hb1.cell (p := ⟨b, off + k * 4 + 2, none⟩) (Nat.lt_of_lt_of_le hbB hB)).trans hc.2.2.1
            have c3 := (hb1.cell (p := ⟨b, off + k * 4 + 3, none⟩) (Nat.lt_of_lt_of_le hbB hB)).trans hc.2.2.2
            go_wp2_with fail
            refine (within_any _ _ _ _).mono ?_
            rintro e w' ⟨rfl, rfl⟩
            rw [h2]
            go_wp2_with fail
            refine (within_any _ _ _ _).mono ?_
            rintro e w' ⟨rfl, rfl⟩
            rw [h3]
            go_wp2_with fail
            go_ret2
            rw [hf.out.1, hf.out.2.1, hf.out.2.2]
            exact ⟨_, rfl, World.ownsRow_nil _ _ _ _, hb1⟩
          · have hd2 : decide (t ≤ F0) = false := by simpa using hlt
            have hd := (show decide (T0 ≤ t) = true by simp; omega)
            go_enter Try.func8, Try.ntmps8
            go_wp2_with fail
            refine (AreCarries_any _ n B xs _ Hc.out Hv.out hB hn).mono ?_
            rintro e w1 ⟨rfl, hb1⟩
            rw [h1]
            have c0 := (hb1.cell (p := ⟨b, off + k * 4, none⟩) (Nat.lt_of_lt_of_le hbB hB)).trans hc.1
            have c1 := (hb1.cell (p := ⟨b, off + k * 4 + 1, none⟩) (Nat.lt_of_lt_of_le hbB hB)).trans hc.2.1
            have c2 := (hb1.cell (p := ⟨b, off + k * 4 + 2, none⟩) (Nat.lt_of_lt_of_le hbB hB)).trans hc.2.2.1
            have c3 := (hb1.cell (p := ⟨b, off + k * 4 + 3, none⟩) (Nat.lt_of_lt_of_le hbB hB)).trans hc.2.2.2
            go_wp2_with fail
            refine (within_any _ _ _ _).mono ?_
            rintro e w' ⟨rfl, rfl⟩
            rw [h2]
            go_wp2_with fail
            refine (within_any _ _ _ _).mono ?_
            rintro e w' ⟨rfl, rfl⟩
            rw [h3]
            go_wp2_with fail
            go_ret2
            rw [hf.out.1, hf.out.2.1, hf.out.2.2]
            exact ⟨_, rfl, World.ownsRow_nil _ _ _ _, hb1⟩
        | true =>
          have h4' := inB_yes h4
          have hd1 : decide (t ≤ F0) = false := by simp; omega
          have hd2 : decide (T0 ≤ t) = false := by simp; omega
          cases h5 : (P0 == p) with
          | true =>
            have hf := Lib.hid (sp_no (H5a.out h5))
            have hd := (show (p == P0) = true by rw [BEq.comm]; exact h5)
            go_enter Try.func8, Try.ntmps8
            go_wp2_with fail
            refine (AreCarries_any _ n B xs _ Hc.out Hv.out hB hn).mono ?_
            rintro e w1 ⟨rfl, hb1⟩
            rw [h1]
            have c0 := (hb1.cell (p := ⟨b, off + k * 4, none⟩) (Nat.lt_of_lt_of_le hbB hB)).trans hc.1
            have c1 := (hb1.cell (p := ⟨b, off + k * 4 + 1, none⟩) (Nat.lt_of_lt_of_le hbB hB)).trans hc.2.1
            have c2 := (hb1.cell (p := ⟨b, off + k * 4 + 2, none⟩) (Nat.lt_of_lt_of_le hbB hB)).trans hc.2.2.1
            have c3 := (hb1.cell (p := ⟨b, off + k * 4 + 3, none⟩) (Nat.lt_of_lt_of_le hbB hB)).trans hc.2.2.2
            go_wp2_with fail
            refine (within_any _ _ _ _).mono ?_
            rintro e w' ⟨rfl, rfl⟩
            rw [h2]
            go_wp2_with fail
            refine (within_any _ _ _ _).mono ?_
            rintro e w' ⟨rfl, rfl⟩
            rw [h3]
            go_wp2_with fail
            go_ret2
            rw [hf.out.1, hf.out.2.1, hf.out.2.2]
            exact ⟨_, rfl, World.ownsRow_nil _ _ _ _, hb1⟩
          | false =>
            have hd : (p == P0) = false := by rw [BEq.comm]; exact h5
            have HY := Lib.hid (HYa.out h4 h5)
            have HO := Lib.hid (HOa.out h4)
            go_enter Try.func8, Try.ntmps8
            go_wp2_with fail
            refine (AreCarries_any _ n B xs _ Hc.out Hv.out hB hn).mono ?_
            rintro e w1 ⟨rfl, hb1⟩
            rw [h1]
            have c0 := (hb1.cell (p := ⟨b, off + k * 4, none⟩) (Nat.lt_of_lt_of_le hbB hB)).trans hc.1
            have c1 := (hb1.cell (p := ⟨b, off + k * 4 + 1, none⟩) (Nat.lt_of_lt_of_le hbB hB)).trans hc.2.1
            have c2 := (hb1.cell (p := ⟨b, off + k * 4 + 2, none⟩) (Nat.lt_of_lt_of_le hbB hB)).trans hc.2.2.1
            have c3 := (hb1.cell (p := ⟨b, off + k * 4 + 3, none⟩) (Nat.lt_of_lt_of_le hbB hB)).trans hc.2.2.2
            go_wp2_with fail
            refine (within_any _ _ _ _).mono ?_
            rintro e w' ⟨rfl, rfl⟩
            rw [h2]
            go_wp2_with fail
            refine (within_any _ _ _ _).mono ?_
            rintro e w' ⟨rfl, rfl⟩
            rw [h3]
            have HE := Lib.hid (show (w1.alloc (.cells #[] 52)).ownsRow w1.heap.size 52 4 (.slice (some ⟨w1.heap.size, 0, none⟩) 0 0) 0 (ints []) from own_empty w1 52 4)
            have HBe := Lib.hid (below_new hb1 (.cells #[] 52))
            have hz1 := hb1.size
            have hPt : Part (w1.alloc (.cells #[] 52)) 4 (.slice (some ⟨b, off, none⟩) n c) n xs := part_rd (Hv.out.below' HBe.out hB) (by omega)
            go_wp2_with (at_builtin; refine app_part rfl _ _ rfl w1.heap.size _ 0 [] rfl HE.out _ n xs rfl hPt (by omega) (by simp) ?_; intro v1 w2 ho2 hg2)
            clear hPt
            have HB2 := Lib.hid ((Own.of HE.out).frame HBe.out hz1 HBe.out.size hg2)
            have HO2 := Lib.hid (own_cast ho2 (Nat.zero_add n) (List.nil_append xs).symm)
            have hz2 : w1.heap.size ≤ w2.heap.size := by have := hg2.size; simp at this; omega
            clear ho2 hg2 c0 c1 c2 c3 hb1
            have c1 := (HB2.out.cell (p := ⟨b, off + k * 4 + 1, none⟩) (Nat.lt_of_lt_of_le hbB hB)).trans hc.2.1
            have c3 := (HB2.out.cell (p := ⟨b, off + k * 4 + 3, none⟩) (Nat.lt_of_lt_of_le hbB hB)).trans hc.2.2.2
            have FX := Lib.hid (show ∀ W, Below w.heap.size w W → W.cell? ⟨b, off + k * 4 + 1, none⟩ = some (.int .i64 L0) ∧ W.cell? ⟨b, off + k * 4 + 3, none⟩ = some (.int .i64 T0) from fun W hW => ⟨(hW.cell (p := ⟨b, off + k * 4 + 1, none⟩) (Nat.lt_of_lt_of_le hbB hB)).trans hc.2.1, (hW.cell (p := ⟨b, off + k * 4 + 3, none⟩) (Nat.lt_of_lt_of_le hbB hB)).trans hc.2.2.2⟩)
            go_wp2_with fail
            refine wp_region_held_drew (S := fun W => W.cell? ⟨b, off + k * 4 + 1, none⟩ = some (.int .i64 L0) ∧ W.cell? ⟨b, off + k * 4 + 3, none⟩ = some (.int .i64 T0)) (by kernel_rfl) ⟨c1, c3⟩ (fun hHeld => ?_)
            refine take_at (i := 0) (oi := _) 57 (v := v1) rfl rfl (by kernel_rfl) (by kernel_rfl) (by kernel_rfl) (fun _ _ _ h => h) (Or.inl ⟨by rfl, ?_⟩) hHeld ?_
            · (intro w hSw; (try dsimp only at hSw); go_split_ands; go_simp)
            simp only [List.setIfInBounds_toArray, List.set_cons_zero, List.set_cons_succ]
            refine take_at (i := 1) (oi := _) 58 (v := .int .i64 p) rfl rfl (by kernel_rfl) (by kernel_rfl) (by kernel_rfl) (fun _ _ _ h => h) (Or.inl ⟨by rfl, ?_⟩) hHeld ?_
            · (intro w hSw; (try dsimp only at hSw); go_split_ands; go_simp)
            simp only [List.setIfInBounds_toArray, List.set_cons_zero, List.set_cons_succ]
            refine take_at (i := 2) (oi := _) 59 (v := .slice (some ⟨b, off, none⟩) n c) rfl rfl (by kernel_rfl) (by kernel_rfl) (by kernel_rfl) (fun _ _ _ h => h) (Or.inl ⟨by rfl, ?_⟩) hHeld ?_
            · (intro w hSw; (try dsimp only at hSw); go_split_ands; go_simp)
            simp only [List.setIfInBounds_toArray, List.set_cons_zero, List.set_cons_succ]
            refine take_at (i := 3) (oi := _) 60 (v := .int .i64 (k : Int)) rfl rfl (by kernel_rfl) (by kernel_rfl) (by kernel_rfl) (fun _ _ _ h => h) (Or.inl ⟨by rfl, ?_⟩) hHeld ?_
            · (intro w hSw; (try dsimp only at hSw); go_split_ands; go_simp)
            simp only [List.setIfInBounds_toArray, List.set_cons_zero, List.set_cons_succ]
            refine take_at (i := 4) (oi := _) 61 (v := .pointer (some ⟨b, off + k * 4, none⟩)) rfl rfl (by kernel_rfl) (by kernel_rfl) (by kernel_rfl) (fun _ _ _ h => h) (Or.inl ⟨by rfl, ?_⟩) hHeld ?_
            · (intro w hSw; (try dsimp only at hSw); go_split_ands; go_simp)
            simp only [List.setIfInBounds_toArray, List.set_cons_zero, List.set_cons_succ]
            refine take_at (i := 5) (oi := _) 62 (v := .pointer (some ⟨b, off + k * 4 + 1, none⟩)) rfl rfl (by kernel_rfl) (by kernel_rfl) (by kernel_rfl) (fun _ _ _ h => h) (Or.inl ⟨by rfl, ?_⟩) hHeld ?_
            · (intro w hSw; (try dsimp only at hSw); go_split_ands; go_simp)
            simp only [List.setIfInBounds_toArray, List.set_cons_zero, List.set_cons_succ]
            refine take_at (i := 6) (oi := _) 63 (v := .int .i64 L0) rfl rfl (by kernel_rfl) (by kernel_rfl) (by kernel_rfl) (fun _ _ _ h => h) (Or.inl ⟨by rfl, ?_⟩) hHeld ?_
            · (intro w hSw; (try dsimp only at hSw); go_split_ands; go_simp)
            simp only [List.setIfInBounds_toArray, List.set_cons_zero, List.set_cons_succ]
            refine take_at (i := 7) (oi := _) 64 (v := .int .i64 t) rfl rfl (by kernel_rfl) (by kernel_rfl) (by kernel_rfl) (fun _ _ _ h => h) (Or.inl ⟨by rfl, ?_⟩) hHeld ?_
            · (intro w hSw; (try dsimp only at hSw); go_split_ands; go_simp)
            simp only [List.setIfInBounds_toArray, List.set_cons_zero, List.set_cons_succ]
            refine take_at (i := 8) (oi := _) 65 (v := .slice (some ⟨b, off, none⟩) n c) rfl rfl (by kernel_rfl) (by kernel_rfl) (by kernel_rfl) (fun _ _ _ h => h) (Or.inl ⟨by rfl, ?_⟩) hHeld ?_
            · (intro w hSw; (try dsimp only at hSw); go_split_ands; go_simp)
            simp only [List.setIfInBounds_toArray, List.set_cons_zero, List.set_cons_succ]
            refine take_at (i := 9) (oi := _) 66 (v := .int .i64 (k : Int)) rfl rfl (by kernel_rfl) (by kernel_rfl) (by kernel_rfl) (fun _ _ _ h => h) (Or.inl ⟨by rfl, ?_⟩) hHeld ?_
            · (intro w hSw; (try dsimp only at hSw); go_split_ands; go_simp)
            simp only [List.setIfInBounds_toArray, List.set_cons_zero, List.set_cons_succ]
            refine take_at (i := 10) (oi := _) 67 (v := .pointer (some ⟨b, off + k * 4, none⟩)) rfl rfl (by kernel_rfl) (by kernel_rfl) (by kernel_rfl) (fun _ _ _ h => h) (Or.inl ⟨by rfl, ?_⟩) hHeld ?_
            · (intro w hSw; (try dsimp only at hSw); go_split_ands; go_simp)
            simp only [List.setIfInBounds_toArray, List.set_cons_zero, List.set_cons_succ]
            refine take_at (i := 11) (oi := _) 68 (v := .pointer (some ⟨b, off + k * 4 + 3, none⟩)) rfl rfl (by kernel_rfl) (by kernel_rfl) (by kernel_rfl) (fun _ _ _ h => h) (Or.inl ⟨by rfl, ?_⟩) hHeld ?_
            · (intro w hSw; (try dsimp only at hSw); go_split_ands; go_simp)
            simp only [List.setIfInBounds_toArray, List.set_cons_zero, List.set_cons_succ]
            refine take_at (i := 12) (oi := _) 69 (v := .int .i64 T0) rfl rfl (by kernel_rfl) (by kernel_rfl) (by kernel_rfl) (fun _ _ _ h => h) (Or.inl ⟨by rfl, ?_⟩) hHeld ?_
            · (intro w hSw; (try dsimp only at hSw); go_split_ands; go_simp)
            simp only [List.setIfInBounds_toArray, List.set_cons_zero, List.set_cons_succ]
            refine take_at (i := 13) (oi := _) 70 (v := (Value.agg #[Value.int .i64 p, Value.int .i64 L0, Value.int .i64 t, Value.int .i64 T0])) rfl rfl (by kernel_rfl) (by kernel_rfl) (by kernel_rfl) (fun _ _ _ h => h) (Or.inl ⟨by rfl, ?_⟩) hHeld ?_
            · (intro w hSw; (try dsimp only at hSw); go_split_ands; go_simp)
            simp only [List.setIfInBounds_toArray, List.set_cons_zero, List.set_cons_succ]
            refine wpAnyH_ready (rs := [14]) (by kernel_rfl) (by simp) ?_
            refine AllReadyH.cons (o := _) rfl (fun K9 hK => ?_) AllReadyH.nil
            go_simp
            have K6 := Lib.hid (Blk.new w2.drew 52 #[.int .i64 p, .int .i64 L0, .int .i64 t, .int .i64 T0])
            have HO3 := Lib.hid (own_below HO2.out (below_new ((Below.refl w2.heap.size w2).drew) (.cells #[.int .i64 p, .int .i64 L0, .int .i64 t, .int .i64 T0] 52)) (Nat.le_refl _))
            have HB3 := Lib.hid (below_new HB2.out.drew (.cells #[.int .i64 p, .int .i64 L0, .int .i64 t, .int .i64 T0] 52))
            have hz3 := Lib.hid (show w1.heap.size ≤ (w2.drew.alloc (.cells #[.int .i64 p, .int .i64 L0, .int .i64 t, .int .i64 T0] 52)).heap.size by simp; omega)
            refine hK.out _ _ (FX.out _ HB3.out) (fun hHeld => ?_)
            clear hK K9 c1 c3
            refine wpAnyH_ready (rs := [15]) (by kernel_rfl) (by simp) ?_
            refine AllReadyH.cons (o := _) rfl (fun K9 hK => ?_) AllReadyH.nil
            refine step_part rfl _ _ rfl w1.heap.size _ n xs rfl HO3.out _ 1 [p, L0, t, T0] rfl (part_one K6.out) (by omega) hz3.out ?_
            intro v3 w3 ho3 hg3
            have HB4 := Lib.hid ((Own.of HO3.out).frame HB3.out hz1 HB3.out.size hg3)
            have HO4 := Lib.hid ho3
            clear ho3 hg3
            go_simp
            refine hK.out _ _ (FX.out _ HB4.out) (fun hHeld => ?_)
            clear hK K9
            refine wpAnyH_ready (rs := [16]) (by kernel_rfl) (by simp) ?_
            refine AllReadyH.cons (o := _) rfl (fun K9 hK => ?_) AllReadyH.nil
            go_simp
            refine hK.out _ _ (FX.out _ HB4.out) (fun hHeld => ?_)
            clear hK K9
            refine wpAnyH_done (by kernel_rfl) ?_ _
            clear hHeld
            obtain ⟨A3, c3, rfl⟩ := (Rd.of_own HO4.out).form4
            obtain ⟨g, rfl, hg3⟩ := own_at HO4.out (by omega)
            have f0 := HO4.out.frozenAt (k * 4 + 3)
            have s0 := HO4.out.cellAt (k * 4 + 3) (by omega)
            rw [ints_get _ _ (by rw [List.length_append, hxl.out]; simp; omega)] at s0
            obtain ⟨x9, ex9⟩ : ∃ q, (xs ++ [p, L0, t, T0]).getD (k * 4 + 3) 0 = q := ⟨_, rfl⟩
            rw [ex9] at s0
            have i2 : (k : Int) < (n : Int) + 1 := by omega
            have HO5 := Lib.hid (HO4.out.stored (k * 4 + 3) (.int .i64 t)).1
            have HG5 := Lib.hid (HO4.out.stored (k * 4 + 3) (.int .i64 t)).2
            have HB5 := Lib.hid ((Own.of HO4.out).frame HB4.out hz1 HB4.out.size HG5.out)
            have EF := Lib.hid (show ints (((cars n xs).set k (P0, L0, F0, t) ++ [(p, L0, t, T0)]).flatMap fun c => [c.1, c.2.1, c.2.2.1, c.2.2.2]) = (ints (xs ++ [p, L0, t, T0])).set (k * 4 + 3) (.int .i64 t) by
              rw [ints_set, ← HXa.out, HFa.out]; rfl)
            have HC5 := Lib.hid (Cs.start (lo := w1.heap.size) (g := g) (cap := c3) (n := n + 1) (l := (cars n xs).set k (P0, L0, F0, t) ++ [(p, L0, t, T0)]) (by rw [List.length_append, List.length_set, cars_length]; rfl) HO.out (by
              have := HO5.out
              rw [← EF.out] at this
              exact this))
            clear ex9
            go_wp2_with fail
            refine (sortStable_any w1.heap.size g c3 (n + 1) _ _ HC5.out (by omega) (by omega)).mono ?_
            rintro e w5 ⟨rfl, Z, hz, hw, hcz⟩
            have HS := Lib.hid (HSa.out Z hz hw)
            have HZ := Lib.hid hcz
            have HB6 := Lib.hid (HB5.out.grown hcz.only HB5.out.size (fun q hq => by injection hq with hq; omega))
            clear hz hw hcz s0 f0
            go_wp2_with fail
            refine (AreCarries_any _ (n + 1) w5.heap.size (flat Z) _ (Own.of HZ.out.own).cap (Rd.of_own HZ.out.own) (Nat.le_refl _) (by omega)).mono ?_
            rintro e w6 ⟨rfl, hb6⟩
            have HB7 := Lib.hid (below_on HB6.out hb6)
            have HZ2 := Lib.hid (own_below HZ.out.own hb6 (Nat.le_refl _))
            clear hb6
            rw [HS.out.1]
            obtain ⟨y1, y2, y3⟩ := HY.out
            cases hq : csB (n + 1) (spX xs k t p) with
            | false =>
              have HF := Lib.hid (show spB n xs (k : Int) t p = false ∧ spL n xs (k : Int) t p = [] ∧ spN n xs (k : Int) t p = 0 from sp_no (y1.trans hq))
              clear y1 y2 y3
              go_wp2_with fail
              go_ret2
              rw [HF.out.1, HF.out.2.1, HF.out.2.2]
              exact ⟨_, rfl, World.ownsRow_nil _ _ _ _, HB7.out⟩
            | true =>
              have HF := Lib.hid (show spB n xs (k : Int) t p = true ∧ spL n xs (k : Int) t p = flat Z ∧ spN n xs (k : Int) t p = n + 1 from ⟨y1.trans hq, by rw [y2, csL, if_pos hq]; exact (HS.out.2 hq).symm, by rw [y3, csN, if_pos hq]⟩)
              clear y1 y2 y3
              go_wp2_with fail
              go_ret2
              rw [HF.out.1, HF.out.2.1, HF.out.2.2]
              exact ⟨_, rfl, own_base HZ2.out hz1, HB7.out⟩
end Go.Proofs.Ytamehlafmfmgmaa
