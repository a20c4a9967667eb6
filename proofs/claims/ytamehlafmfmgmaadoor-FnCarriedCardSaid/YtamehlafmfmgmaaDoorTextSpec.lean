/- Contract of the reference's CarriesText. Conditions: the slice can be read, and its length is at most its capacity. -/
import Derived.Test.YtamehlafmfmgmaaDoorTextFn
import Derived.Test.YtamehlafmfmgmaaDoorAreSpec
import Derived.Test.YtamehlafmfmgmaaDoorTake
namespace Go.Proofs.YtamehlafmfmgmaaDoor
open Go.RowKit

theorem num_any (n : Int) (w : World) (h0 : 0 ≤ n) (h1 : n < 100000) : Calls Tryd.prog 27 #[.int .i64 n] w fun e w' => e = .returned (.string (txt (numT n))) ∧ Below w.heap.size w w' := by
  obtain ⟨k, rfl⟩ := Int.eq_ofNat_of_zero_le h0
  exact l1Num_any 5 k w (by omega) (by omega) (by omega) (by omega)
set_option maxRecDepth 100000 in
set_option maxHeartbeats 4000000 in
theorem specCarriesText_any (v : Value) (n B : Nat) (xs : List Int) (w : World) (hcp : Cap v) (hv : Rd w B 4 v n xs) (hB : B ≤ w.heap.size) (hn : n ≤ 1099511627776) :
    Calls Tryd.prog 6 #[v] w fun e w' => e = .returned (.tuple #[.string (txt (ctL n xs)), .bool (gcB n xs)]) ∧ Below w.heap.size w w' := by
  obtain ⟨A, c, rfl⟩ := hv.form4
  have Hv := Lib.hid hv
  have Hc := Lib.hid hcp
  clear hv hcp
  cases h1 : gcB n xs with
  | false =>
    have hf := Lib.hid (show txt (ctL n xs) = ⟨#[]⟩ by rw [ctL, if_neg (by rw [h1]; simp)]; rfl)
    go_enter Tryd.func6, Tryd.ntmps6
    go_wp2_with fail
    refine (caGood_any _ n B xs _ Hc.out Hv.out hB hn).mono ?_
    rintro e w1 ⟨rfl, hb1⟩
    rw [h1]
    go_wp2_with fail
    go_ret2
    exact ⟨by rw [hf.out]; rfl, hb1⟩
  | true =>
    have hf := Lib.hid (show txt (ctL n xs) = txt (ctTo xs n) by rw [ctL, if_pos h1])
    have HG := Lib.hid (gc_yes h1)
    have h40 := (gc_yes h1).len
    go_enter Tryd.func6, Tryd.ntmps6
    go_wp2_with fail
    refine (caGood_any _ n B xs _ Hc.out Hv.out hB hn).mono ?_
    rintro e w1 ⟨rfl, hb1⟩
    rw [h1]
    go_wp2_with fail
    go_loopw [4, 12] (fun u i wr => ∃ k : Nat, k ≤ n ∧ i = .int .i64 k ∧ u = .string (txt (ctTo xs k)) ∧ Below w.heap.size w wr) (fun _ i _ => n - (intOf i).toNat)
    case atStart => exact ⟨0, Nat.zero_le _, rfl, rfl, hb1⟩
    case round =>
      clear hb1
      obtain ⟨k, hk, rfl, rfl, hb⟩ := hrel
      obtain ⟨wo, rfl⟩ : ∃ wo : World, wo = wr := ⟨_, rfl⟩
      by_cases hlt : k < n
      · obtain ⟨b, off, rfl, hbB, hc⟩ := Hv.out.carry (by omega)
        have hcip := hc k (by omega)
        obtain ⟨p, ep⟩ : ∃ a, cP xs k = a := ⟨_, rfl⟩
        obtain ⟨l, el⟩ : ∃ a, cL xs k = a := ⟨_, rfl⟩
        obtain ⟨f, ef⟩ : ∃ a, cF xs k = a := ⟨_, rfl⟩
        obtain ⟨t, et⟩ : ∃ a, cT xs k = a := ⟨_, rfl⟩
        rw [ep, el, ef, et] at hcip
        have c0 := (hb.cell (p := ⟨b, off + k * 4, none⟩) (Nat.lt_of_lt_of_le hbB hB)).trans hcip.1
        have c1 := (hb.cell (p := ⟨b, off + k * 4 + 1, none⟩) (Nat.lt_of_lt_of_le hbB hB)).trans hcip.2.1
        have c2 := (hb.cell (p := ⟨b, off + k * 4 + 2, none⟩) (Nat.lt_of_lt_of_le hbB hB)).trans hcip.2.2.1
        have c3 := (hb.cell (p := ⟨b, off + k * 4 + 3, none⟩) (Nat.lt_of_lt_of_le hbB hB)).trans hcip.2.2.2
        have i0 : (0 : Int) ≤ (k : Int) := by omega
        have i1 : (k : Int) < (n : Int) := by omega
        have K := Lib.hid (Blk.new wo 50 #[.int .i64 p, .int .i64 l, .int .i64 f, .int .i64 t])
        have HB := Lib.hid (below_new hb (.cells #[.int .i64 p, .int .i64 l, .int .i64 f, .int .i64 t] 50))
        have hval := caB_yes (HG.out.each k hlt)
        rw [ep, el, ef, et] at hval
        obtain ⟨v1, v2, v3, v4, v5⟩ := hval
        have HE := Lib.hid (ctTo_txt ep el ef et)
        have HL := Lib.hid (line_txt p l f t)
        have z0 := ctTo_len xs k
        have z1 := numT_len p
        have z2 := numT_len l
        have z3 := numT_len f
        have z4 := numT_len t
        rw [← txt_size] at z0 z1 z2 z3 z4
        have P1 := Lib.hid (fun W => num_any p W (by omega) (by omega))
        have P2 := Lib.hid (fun W => num_any l W (by omega) (by omega))
        have P3 := Lib.hid (fun W => num_any f W (by omega) (by omega))
        have P4 := Lib.hid (fun W => num_any t W (by omega) (by omega))
        obtain ⟨ta, ea⟩ : ∃ q, txt (numT p) = q := ⟨_, rfl⟩
        obtain ⟨tb, eb⟩ : ∃ q, txt (numT l) = q := ⟨_, rfl⟩
        obtain ⟨tc, ec⟩ : ∃ q, txt (numT f) = q := ⟨_, rfl⟩
        obtain ⟨td, ed⟩ : ∃ q, txt (numT t) = q := ⟨_, rfl⟩
        obtain ⟨ts, es⟩ : ∃ q, txt (ctTo xs k) = q := ⟨_, rfl⟩
        rw [ea] at P1 HL z1
        rw [eb] at P2 HL z2
        rw [ec] at P3 HL z3
        rw [ed] at P4 HL z4
        rw [es] at HE z0
        rw [es]
        have n1 : ¬ 9223372036854775807 < ta.size + 1 := by omega
        have n2 : ¬ 9223372036854775807 < ta.size + 1 + tb.size := by omega
        have n3 : ¬ 9223372036854775807 < ta.size + 1 + tb.size + 1 := by omega
        have n4 : ¬ 9223372036854775807 < ta.size + 1 + tb.size + 1 + tc.size := by omega
        have n5 : ¬ 9223372036854775807 < ta.size + 1 + tb.size + 1 + tc.size + 1 := by omega
        have n6 : ¬ 9223372036854775807 < ta.size + 1 + tb.size + 1 + tc.size + 1 + td.size := by omega
        have n7 : ¬ 9223372036854775807 < ta.size + 1 + tb.size + 1 + tc.size + 1 + td.size + 1 := by omega
        have n8 : ¬ 9223372036854775807 < ts.size + (ta.size + 1 + tb.size + 1 + tc.size + 1 + td.size + 1) := by omega
        clear hc hcip ep el ef et ea eb ec ed es hb v1 v2 v3 v4 v5 z0 z1 z2 z3 z4
        obtain ⟨a0, a1, a2, a3⟩ := K.out.c4
        go_wp2_with fail
        refine wp_region_held_drew (S := fun W => W.cell? ⟨wo.heap.size, 0, none⟩ = some (.int .i64 p) ∧ W.cell? ⟨wo.heap.size, 1, none⟩ = some (.int .i64 l) ∧ W.cell? ⟨wo.heap.size, 2, none⟩ = some (.int .i64 f) ∧ W.cell? ⟨wo.heap.size, 3, none⟩ = some (.int .i64 t) ∧ Below w.heap.size w W) (by kernel_rfl) ⟨a0, a1, a2, a3, HB.out.drew⟩ (fun hHeld => ?_)
        clear a0 a1 a2 a3
        refine take_at (i := 0) (oi := _) 16 (v := .string ts) rfl rfl (by kernel_rfl) (by kernel_rfl) (by kernel_rfl) (fun _ _ _ h => h) (Or.inl ⟨by rfl, ?_⟩) hHeld ?_
        · (intro w hSw; (try dsimp only at hSw); go_split_ands; go_simp)
        simp only [List.setIfInBounds_toArray, List.set_cons_zero, List.set_cons_succ]
        refine take_at (i := 1) (oi := _) 17 (v := .pointer (some ⟨wo.heap.size, 0, none⟩)) rfl rfl (by kernel_rfl) (by kernel_rfl) (by kernel_rfl) (fun _ _ _ h => h) (Or.inl ⟨by rfl, ?_⟩) hHeld ?_
        · (intro w hSw; (try dsimp only at hSw); go_split_ands; go_simp)
        simp only [List.setIfInBounds_toArray, List.set_cons_zero, List.set_cons_succ]
        refine take_at (i := 2) (oi := _) 18 (v := .int .i64 p) rfl rfl (by kernel_rfl) (by kernel_rfl) (by kernel_rfl) (fun _ _ _ h => h) (Or.inl ⟨by rfl, ?_⟩) hHeld ?_
        · (intro w hSw; (try dsimp only at hSw); go_split_ands; go_simp)
        simp only [List.setIfInBounds_toArray, List.set_cons_zero, List.set_cons_succ]
        refine take_at (i := 5) (oi := _) 21 (v := .pointer (some ⟨wo.heap.size, 1, none⟩)) rfl rfl (by kernel_rfl) (by kernel_rfl) (by kernel_rfl) (fun _ _ _ h => h) (Or.inl ⟨by rfl, ?_⟩) hHeld ?_
        · (intro w hSw; (try dsimp only at hSw); go_split_ands; go_simp)
        simp only [List.setIfInBounds_toArray, List.set_cons_zero, List.set_cons_succ]
        refine take_at (i := 6) (oi := _) 22 (v := .int .i64 l) rfl rfl (by kernel_rfl) (by kernel_rfl) (by kernel_rfl) (fun _ _ _ h => h) (Or.inl ⟨by rfl, ?_⟩) hHeld ?_
        · (intro w hSw; (try dsimp only at hSw); go_split_ands; go_simp)
        simp only [List.setIfInBounds_toArray, List.set_cons_zero, List.set_cons_succ]
        refine take_at (i := 10) (oi := _) 26 (v := .pointer (some ⟨wo.heap.size, 2, none⟩)) rfl rfl (by kernel_rfl) (by kernel_rfl) (by kernel_rfl) (fun _ _ _ h => h) (Or.inl ⟨by rfl, ?_⟩) hHeld ?_
        · (intro w hSw; (try dsimp only at hSw); go_split_ands; go_simp)
        simp only [List.setIfInBounds_toArray, List.set_cons_zero, List.set_cons_succ]
        refine take_at (i := 11) (oi := _) 27 (v := .int .i64 f) rfl rfl (by kernel_rfl) (by kernel_rfl) (by kernel_rfl) (fun _ _ _ h => h) (Or.inl ⟨by rfl, ?_⟩) hHeld ?_
        · (intro w hSw; (try dsimp only at hSw); go_split_ands; go_simp)
        simp only [List.setIfInBounds_toArray, List.set_cons_zero, List.set_cons_succ]
        refine take_at (i := 15) (oi := _) 31 (v := .pointer (some ⟨wo.heap.size, 3, none⟩)) rfl rfl (by kernel_rfl) (by kernel_rfl) (by kernel_rfl) (fun _ _ _ h => h) (Or.inl ⟨by rfl, ?_⟩) hHeld ?_
        · (intro w hSw; (try dsimp only at hSw); go_split_ands; go_simp)
        simp only [List.setIfInBounds_toArray, List.set_cons_zero, List.set_cons_succ]
        refine take_at (i := 16) (oi := _) 32 (v := .int .i64 t) rfl rfl (by kernel_rfl) (by kernel_rfl) (by kernel_rfl) (fun _ _ _ h => h) (Or.inl ⟨by rfl, ?_⟩) hHeld ?_
        · (intro w hSw; (try dsimp only at hSw); go_split_ands; go_simp)
        simp only [List.setIfInBounds_toArray, List.set_cons_zero, List.set_cons_succ]
        refine wpAnyH_ready (rs := [3]) (by kernel_rfl) (by simp) ?_
        refine AllReadyH.cons (o := _) rfl (fun K9 hK => ?_) AllReadyH.nil
        go_simp
        refine (P1.out _).mono ?_
        rintro e w2 ⟨rfl, hb2⟩
        refine hK.out _ _ ⟨cell_on hb2 hHeld.1, cell_on hb2 hHeld.2.1, cell_on hb2 hHeld.2.2.1, cell_on hb2 hHeld.2.2.2.1, below_on hHeld.2.2.2.2 hb2⟩ (fun hHeld => ?_)
        clear hK K9 hb2
        refine take_at (i := 4) (oi := _) 20 (v := .string (ta ++ ⟨#[32]⟩)) rfl rfl (by kernel_rfl) (by kernel_rfl) (by kernel_rfl) (fun _ _ _ h => h) (Or.inl ⟨by rfl, ?_⟩) hHeld ?_
        · (intro w hSw; (try dsimp only at hSw); go_split_ands; go_simp)
        simp only [List.setIfInBounds_toArray, List.set_cons_zero, List.set_cons_succ]
        refine wpAnyH_ready (rs := [7]) (by kernel_rfl) (by simp) ?_
        refine AllReadyH.cons (o := _) rfl (fun K9 hK => ?_) AllReadyH.nil
        go_simp
        refine (P2.out _).mono ?_
        rintro e w2 ⟨rfl, hb2⟩
        refine hK.out _ _ ⟨cell_on hb2 hHeld.1, cell_on hb2 hHeld.2.1, cell_on hb2 hHeld.2.2.1, cell_on hb2 hHeld.2.2.2.1, below_on hHeld.2.2.2.2 hb2⟩ (fun hHeld => ?_)
        clear hK K9 hb2
        refine take_at (i := 8) (oi := _) 24 (v := .string (ta ++ ⟨#[32]⟩ ++ tb)) rfl rfl (by kernel_rfl) (by kernel_rfl) (by kernel_rfl) (fun _ _ _ h => h) (Or.inl ⟨by rfl, ?_⟩) hHeld ?_
        · (intro w hSw; (try dsimp only at hSw); go_split_ands; go_simp)
        simp only [List.setIfInBounds_toArray, List.set_cons_zero, List.set_cons_succ]
        refine take_at (i := 9) (oi := _) 25 (v := .string (ta ++ ⟨#[32]⟩ ++ tb ++ ⟨#[32]⟩)) rfl rfl (by kernel_rfl) (by kernel_rfl) (by kernel_rfl) (fun _ _ _ h => h) (Or.inl ⟨by rfl, ?_⟩) hHeld ?_
        · (intro w hSw; (try dsimp only at hSw); go_split_ands; go_simp)
        simp only [List.setIfInBounds_toArray, List.set_cons_zero, List.set_cons_succ]
        refine wpAnyH_ready (rs := [12]) (by kernel_rfl) (by simp) ?_
        refine AllReadyH.cons (o := _) rfl (fun K9 hK => ?_) AllReadyH.nil
        go_simp
        refine (P3.out _).mono ?_
        rintro e w2 ⟨rfl, hb2⟩
        refine hK.out _ _ ⟨cell_on hb2 hHeld.1, cell_on hb2 hHeld.2.1, cell_on hb2 hHeld.2.2.1, cell_on hb2 hHeld.2.2.2.1, below_on hHeld.2.2.2.2 hb2⟩ (fun hHeld => ?_)
        clear hK K9 hb2
        refine take_at (i := 13) (oi := _) 29 (v := .string (ta ++ ⟨#[32]⟩ ++ tb ++ ⟨#[32]⟩ ++ tc)) rfl rfl (by kernel_rfl) (by kernel_rfl) (by kernel_rfl) (fun _ _ _ h => h) (Or.inl ⟨by rfl, ?_⟩) hHeld ?_
        · (intro w hSw; (try dsimp only at hSw); go_split_ands; go_simp)
        simp only [List.setIfInBounds_toArray, List.set_cons_zero, List.set_cons_succ]
        refine take_at (i := 14) (oi := _) 30 (v := .string (ta ++ ⟨#[32]⟩ ++ tb ++ ⟨#[32]⟩ ++ tc ++ ⟨#[32]⟩)) rfl rfl (by kernel_rfl) (by kernel_rfl) (by kernel_rfl) (fun _ _ _ h => h) (Or.inl ⟨by rfl, ?_⟩) hHeld ?_
        · (intro w hSw; (try dsimp only at hSw); go_split_ands; go_simp)
        simp only [List.setIfInBounds_toArray, List.set_cons_zero, List.set_cons_succ]
        refine wpAnyH_ready (rs := [17]) (by kernel_rfl) (by simp) ?_
        refine AllReadyH.cons (o := _) rfl (fun K9 hK => ?_) AllReadyH.nil
        go_simp
        refine (P4.out _).mono ?_
        rintro e w2 ⟨rfl, hb2⟩
        refine hK.out _ _ ⟨cell_on hb2 hHeld.1, cell_on hb2 hHeld.2.1, cell_on hb2 hHeld.2.2.1, cell_on hb2 hHeld.2.2.2.1, below_on hHeld.2.2.2.2 hb2⟩ (fun hHeld => ?_)
        clear hK K9 hb2
        refine take_at (i := 18) (oi := _) 34 (v := .string (ta ++ ⟨#[32]⟩ ++ tb ++ ⟨#[32]⟩ ++ tc ++ ⟨#[32]⟩ ++ td)) rfl rfl (by kernel_rfl) (by kernel_rfl) (by kernel_rfl) (fun _ _ _ h => h) (Or.inl ⟨by rfl, ?_⟩) hHeld ?_
        · (intro w hSw; (try dsimp only at hSw); go_split_ands; go_simp)
        simp only [List.setIfInBounds_toArray, List.set_cons_zero, List.set_cons_succ]
        refine take_at (i := 19) (oi := _) 35 (v := .string (ta ++ ⟨#[32]⟩ ++ tb ++ ⟨#[32]⟩ ++ tc ++ ⟨#[32]⟩ ++ td ++ ⟨#[10]⟩)) rfl rfl (by kernel_rfl) (by kernel_rfl) (by kernel_rfl) (fun _ _ _ h => h) (Or.inl ⟨by rfl, ?_⟩) hHeld ?_
        · (intro w hSw; (try dsimp only at hSw); go_split_ands; go_simp)
        simp only [List.setIfInBounds_toArray, List.set_cons_zero, List.set_cons_succ]
        refine take_at (i := 20) (oi := _) 36 (v := .string (ts ++ (ta ++ ⟨#[32]⟩ ++ tb ++ ⟨#[32]⟩ ++ tc ++ ⟨#[32]⟩ ++ td ++ ⟨#[10]⟩))) rfl rfl (by kernel_rfl) (by kernel_rfl) (by kernel_rfl) (fun _ _ _ h => h) (Or.inl ⟨by rfl, ?_⟩) hHeld ?_
        · (intro w hSw; (try dsimp only at hSw); go_split_ands; go_simp)
        simp only [List.setIfInBounds_toArray, List.set_cons_zero, List.set_cons_succ]
        refine wpAnyH_ready (rs := [21]) (by kernel_rfl) (by simp) ?_
        refine AllReadyH.cons (o := _) rfl (fun K9 hK => ?_) AllReadyH.nil
        go_simp
        refine hK.out _ _ hHeld (fun hHeld => ?_)
        clear hK K9
        refine wpAnyH_done (by kernel_rfl) ?_ _
        have HB2 := Lib.hid hHeld.2.2.2.2
        clear hHeld
        go_wp2_with fail
        go_roundw
        case rel =>
          first
          | exact ⟨k + 1, by omega, by go_num, by rw [HE.out, HL.out], HB2.out⟩
          | ((repeat apply Exists.intro); exact ⟨⟨k + 1, by omega, by go_num, by rw [HE.out, HL.out], HB2.out⟩, rfl⟩)
        case measure => simp [intOf]; omega
      · obtain rfl : k = n := by omega
        have HB := Lib.hid hb
        clear hb
        go_wp2_with fail
        go_ret2
        exact ⟨by rw [hf.out]; rfl, HB.out⟩
end Go.Proofs.YtamehlafmfmgmaaDoor
