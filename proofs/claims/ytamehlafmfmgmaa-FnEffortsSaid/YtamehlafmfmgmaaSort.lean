/- The contract of the reference's caSort. Conditions: the slice can be read, a length of at most 100000. -/
import Derived.Test.YtamehlafmfmgmaaAreSpec
import Derived.Test.YtamehlafmfmgmaaSymLaws
import Derived.Test.YtamehlafmfmgmaaCarryApp
import Derived.Test.YtamehlafmfmgmaaTake
import Derived.Test.YtamehlafmfmgmaaCutFn2
import Derived.Test.YtamehlafmfmgmaaIntApp
import Derived.StillTailTactics
import Derived.BigQuiet
import Derived.Deep.DeepCutAuto
namespace Go.Proofs.Ytamehlafmfmgmaa
open Go.RowKit

/-! The carry goes in at j. $1 the slice, $2, $3 its two parts; FX: what holds of them over all that comes behind Wx. -/
set_option maxRecDepth 100000 in
set_option maxHeartbeats 4000000 in
theorem caSort_any (v : Value) (n B : Nat) (xs : List Int) (w : World) (hv : Rd w B 4 v n xs) (hB : B ≤ w.heap.size) (hn : n ≤ 100000) :
    Calls Try.prog 34 #[v] w fun e w' => ∃ u, e = .returned (.tuple #[u, .bool (csB n xs)]) ∧ w'.ownsRow w.heap.size 52 4 u (csN n xs) (ints (csL n xs)) ∧ Below w.heap.size w w' := by
  obtain ⟨A, c, rfl⟩ := hv.form4
  have Hv := Lib.hid hv
  clear hv
  go_enter Try.func34, Try.ntmps34
  go_wp2_with fail
  go_loopw [4, 10] (fun u s wq => ∃ k : Nat, k ≤ n ∧ s = .int .i64 k ∧ wq.ownsRow w.heap.size 52 4 u k (ints (csTo xs k)) ∧ Below w.heap.size w wq) (fun _ s _ => n - (intOf s).toNat)
  case atStart => exact ⟨0, Nat.zero_le _, rfl, World.ownsRow_nil _ _ _ _, Below.refl _ _⟩
  case round =>
    obtain ⟨k, hk, rfl, hown, hb⟩ := hrel
    obtain ⟨wo, rfl⟩ : ∃ wo : World, wo = wr := ⟨_, rfl⟩
    obtain ⟨ys, ey⟩ : ∃ ys, csTo xs k = ys := ⟨_, rfl⟩
    have hyl : ys.length = k * 4 := by rw [← ey]; exact csTo_length xs k
    rw [ey] at hown
    by_cases hlt : k < n
    · obtain ⟨b, off, rfl, hbB, hc⟩ := Hv.out.carry (by omega)
      have hcip := hc k (by omega)
      obtain ⟨p, ep⟩ : ∃ a, cP xs k = a := ⟨_, rfl⟩
      obtain ⟨l, el⟩ : ∃ a, cL xs k = a := ⟨_, rfl⟩
      obtain ⟨f, ef⟩ : ∃ a, cF xs k = a := ⟨_, rfl⟩
      obtain ⟨t, et⟩ : ∃ a, cT xs k = a := ⟨_, rfl⟩
      rw [ep, el, ef, et] at hcip
      have c0 := (hb.cell (p := ⟨b, off + k * 4, none⟩) (Nat.lt_of_lt_of_le hbB hB)).trans hcip.1
      have c1 := (hb.cell (p := ⟨b, off + k * 4 + 1, none⟩) (Nat.lt_of_lt_of_le hbB hB)).trans hcip.2.1
      have c2 := (hb.cell (p := ⟨b, off + k * 4 + 2, none⟩) (Nat.lt_of_lt_of_le hbB hB)).trans hcip.2.2.1
      have c3 := (hb.cell (p := ⟨b, off + k * 4 + 3, none⟩) (Nat.lt_of_lt_of_le hbB hB)).trans hcip.2.2.2
      have i0 : (0 : Int) ≤ (k : Int) := by omega
      have i1 : (k : Int) < (n : Int) := by omega
      obtain ⟨W0, eW⟩ : ∃ W0, wo.alloc (.cells #[.int .i64 p, .int .i64 l, .int .i64 f, .int .i64 t] 52) = W0 := ⟨_, rfl⟩
      have K := Lib.hid (show Blk W0 wo.heap.size 52 #[.int .i64 p, .int .i64 l, .int .i64 f, .int .i64 t] from eW ▸ Blk.new wo 52 #[.int .i64 p, .int .i64 l, .int .i64 f, .int .i64 t])
      have HB0 := Lib.hid (show Below w.heap.size w W0 from eW ▸ below_new hb (.cells #[.int .i64 p, .int .i64 l, .int .i64 f, .int .i64 t] 52))
      have HO := Lib.hid (show W0.ownsRow w.heap.size 52 4 _ k (ints ys) from eW ▸ own_below hown (Below.alloc (Below.refl _ _) (Nat.le_refl _) (.cells #[.int .i64 p, .int .i64 l, .int .i64 f, .int .i64 t] 52)) (Nat.le_refl _))
      have HN := Lib.hid (fun j hj => csTo_next (j := j) ey ep el ef et hj)
      have Hyl := Lib.hid hyl
      have hls := HO.out.2
      clear hc hcip ep el ef et hb hown ey hyl
      rcases hls with ⟨rfl, h0⟩ | ⟨g, cap, cur, rfl, hgl, hgh, hkc, hgc⟩
      · have Hys := Lib.hid (show ys = [] from List.length_eq_zero_iff.1 (by rw [Hyl.out, h0]))
        have Hk0 := Lib.hid h0
        clear h0
        go_wp2_with fail
        go_loopw [7] (fun s wq => s = .int .i64 0 ∧ Below W0.heap.size W0 wq) (fun s _ => (intOf s).toNat)
        case atStart => exact ⟨rfl, Below.refl _ _⟩
        case round =>
          obtain ⟨rfl, hb⟩ := hrel
          have HB := Lib.hid hb
          have hd : decide ((0 : Int) < (0 : Int)) = false := by simp
          have HQ := Lib.hid (show posOf ys l f k = 0 by rw [Hk0.out]; rfl)
          clear hb
          go_wp2_with fail
          go_quiet (fail)
          obtain ⟨Wx, eX⟩ : ∃ Wx, wr.drewN nq = Wx := ⟨_, rfl⟩
          have HB2 := Lib.hid (show Below W0.heap.size W0 Wx from eX ▸ below_drewN HB.out nq)
          rw [eX]
          clear eX
          have FX := Lib.hid (show ∀ W, Below Wx.heap.size Wx W → (W.cell? ⟨wo.heap.size, 0, none⟩ = some (.int .i64 p) ∧ W.cell? ⟨wo.heap.size, 1, none⟩ = some (.int .i64 l) ∧ W.cell? ⟨wo.heap.size, 2, none⟩ = some (.int .i64 f) ∧ W.cell? ⟨wo.heap.size, 3, none⟩ = some (.int .i64 t)) ∧
              Part W 4 (.slice none 0 0) 0 (ys.take (0 * 4)) ∧ Part W 4 (.slice none 0 0) 0 (ys.drop (0 * 4)) from fun W hW => by
            have h0 := below_on HB2.out hW
            exact ⟨(K.out.on h0).c4, ⟨by rw [Hys.out]; rfl, .inl ⟨rfl, rfl⟩⟩, ⟨by rw [Hys.out]; rfl, .inl ⟨rfl, rfl⟩⟩⟩)
          have HBw := Lib.hid (below_on HB0.out HB2.out)
          have HSx := Lib.hid (show w.heap.size ≤ Wx.heap.size from HBw.out.size)
          have HN2 := Lib.hid (HN.out 0 HQ.out)
          go_upto_region 8 with (fail)
          refine Code.wp_mono (Q := fun e a' wk => e = .normal ∧ ∃ (u : Value) (f : Nat → Value), (wk.ownsRow w.heap.size 52 4 u (k + 1) (ints (csTo xs (k + 1))) ∧ Below w.heap.size w wk) ∧ a' = ⟨#[.slice (some ⟨b, off, none⟩) n c, undef, .slice none 0 0, .bool false, u, undef, f 6, f 7, .slice (some ⟨b, off, none⟩) n c, .int .i64 (n : Int), .int .i64 (k : Int), f 11, f 12, f 13, f 14, f 15, f 16, f 17, f 18, f 19, f 20, f 21, f 22, f 23, f 24, f 25, f 26, f 27, f 28, f 29, f 30, f 31, f 32, f 33, f 34, f 35, f 36, f 37, f 38, f 39, f 40, f 41, undef, undef, undef, undef], []⟩) ?rest ?first
          case rest =>
            rintro _ _ wk ⟨rfl, u, f, ⟨hown, hb⟩, rfl⟩
            have HO9 := Lib.hid hown
            have HB9 := Lib.hid hb
            clear hown hb
            go_wp2_with fail
            go_roundw
            case rel =>
              first
              | exact ⟨k + 1, by omega, by go_num, HO9.out, HB9.out⟩
              | ((repeat apply Exists.intro); exact ⟨⟨k + 1, by omega, by go_num, HO9.out, HB9.out⟩, rfl⟩)
            case measure => simp [intOf]; omega
          case first =>
            refine wp_region_held_drew (S := fun W => W.cell? ⟨wo.heap.size, 0, none⟩ = some (.int .i64 p) ∧ W.cell? ⟨wo.heap.size, 1, none⟩ = some (.int .i64 l) ∧ W.cell? ⟨wo.heap.size, 2, none⟩ = some (.int .i64 f) ∧ W.cell? ⟨wo.heap.size, 3, none⟩ = some (.int .i64 t)) (by kernel_rfl) (FX.out _ (Below.refl _ _)).1 (fun hHeld => ?_)
            have HBx := Lib.hid ((Below.refl Wx.heap.size Wx).drew)
            refine take_at (i := 1) (oi := _) 30 (v := .slice none 0 0) rfl rfl (by kernel_rfl) (by kernel_rfl) (by kernel_rfl) (fun _ _ _ h => (by cases h.1)) (Or.inl ⟨by rfl, ?_⟩) hHeld ?_
            · (intro w hSw; (try dsimp only at hSw); go_split_ands; go_simp)
            simp only [List.setIfInBounds_toArray, List.set_cons_zero, List.set_cons_succ]
            refine take_at (i := 2) (oi := _) 31 (v := .int .i64 ((0 : Nat) : Int)) rfl rfl (by kernel_rfl) (by kernel_rfl) (by kernel_rfl) (fun _ _ _ h => (by cases h.1)) (Or.inl ⟨by rfl, ?_⟩) hHeld ?_
            · (intro w hSw; (try dsimp only at hSw); go_split_ands; go_simp)
            simp only [List.setIfInBounds_toArray, List.set_cons_zero, List.set_cons_succ]
            refine take_at (i := 3) (oi := _) 32 (v := .slice none 0 0) rfl rfl (by kernel_rfl) (by kernel_rfl) (by kernel_rfl) (fun _ _ _ h => (by cases h.1)) (Or.inl ⟨by rfl, ?_⟩) hHeld ?_
            · (intro w hSw; (try dsimp only at hSw); go_split_ands; go_simp)
            simp only [List.setIfInBounds_toArray, List.set_cons_zero, List.set_cons_succ]
            refine take_at (i := 5) (oi := _) 34 (v := (Value.agg #[Value.int .i64 p, Value.int .i64 l, Value.int .i64 f, Value.int .i64 t])) rfl rfl (by kernel_rfl) (by kernel_rfl) (by kernel_rfl) (fun _ _ _ h => (by cases h.1)) (Or.inl ⟨by rfl, ?_⟩) hHeld ?_
            · (intro w hSw; (try dsimp only at hSw); go_split_ands; go_simp)
            simp only [List.setIfInBounds_toArray, List.set_cons_zero, List.set_cons_succ]
            refine take_at (i := 8) (oi := _) 37 (v := .slice none 0 0) rfl rfl (by kernel_rfl) (by kernel_rfl) (by kernel_rfl) (fun _ _ _ h => (by cases h.1)) (Or.inl ⟨by rfl, ?_⟩) hHeld ?_
            · (intro w hSw; (try dsimp only at hSw); go_split_ands; go_simp)
            simp only [List.setIfInBounds_toArray, List.set_cons_zero, List.set_cons_succ]
            refine take_at (i := 9) (oi := _) 38 (v := .int .i64 ((0 : Nat) : Int)) rfl rfl (by kernel_rfl) (by kernel_rfl) (by kernel_rfl) (fun _ _ _ h => (by cases h.1)) (Or.inl ⟨by rfl, ?_⟩) hHeld ?_
            · (intro w hSw; (try dsimp only at hSw); go_split_ands; go_simp)
            simp only [List.setIfInBounds_toArray, List.set_cons_zero, List.set_cons_succ]
            refine take_at (i := 10) (oi := _) 39 (v := .slice none 0 0) rfl rfl (by kernel_rfl) (by kernel_rfl) (by kernel_rfl) (fun _ _ _ h => (by cases h.1)) (Or.inl ⟨by rfl, ?_⟩) hHeld ?_
            · (intro w hSw; (try dsimp only at hSw); go_split_ands; go_simp)
            simp only [List.setIfInBounds_toArray, List.set_cons_zero, List.set_cons_succ]
            refine wpAnyH_ready (rs := [0, 6]) (by kernel_rfl) (by simp) ?_
            refine AllReadyH.cons (o := _) rfl (fun K9 hK => ?_) (AllReadyH.cons (o := _) rfl (fun K9 hK => ?_) AllReadyH.nil)
            · go_simp
              have H29 := Lib.hid (show World.ownsRow _ Wx.heap.size 52 4 _ 0 (ints []) from own_base (own_empty (Wx.drew) 52 4) (base' := Wx.heap.size) HBx.out.size)
              replace HBx := Lib.hid (below_new HBx.out (.cells #[] 52))
              obtain ⟨hx9, -, -⟩ := FX.out _ HBx.out
              refine hK.out _ _ hx9 (fun hHeld => ?_)
              clear hK K9 hx9
              refine wpAnyH_ready (rs := [4, 6]) (by kernel_rfl) (by simp) ?_
              refine AllReadyH.cons (o := _) rfl (fun K9 hK => ?_) (AllReadyH.cons (o := _) rfl (fun K9 hK => ?_) AllReadyH.nil)
              · refine step_part rfl _ _ rfl Wx.heap.size _ _ _ rfl H29.out _ _ _ rfl (FX.out _ HBx.out).2.1 (by omega) HBx.out.size ?_
                intro v9 w9 ho9 hg9
                have hb9 := (Own.of H29.out).frame HBx.out (Nat.le_refl _) HBx.out.size hg9
                replace HBx := Lib.hid hb9
                have H33 := Lib.hid ho9
                clear ho9 hg9 hb9
                go_simp
                obtain ⟨hx9, -, -⟩ := FX.out _ HBx.out
                refine hK.out _ _ hx9 (fun hHeld => ?_)
                clear hK K9 hx9
                refine wpAnyH_ready (rs := [6]) (by kernel_rfl) (by simp) ?_
                refine AllReadyH.cons (o := _) rfl (fun K9 hK => ?_) AllReadyH.nil
                go_simp
                replace H33 := Lib.hid (own_below H33.out (below_new (Below.refl _ _) (.cells #[.int .i64 p, .int .i64 l, .int .i64 f, .int .i64 t] 52)) (Nat.le_refl _))
                have K6 := Lib.hid (Blk.new (w9) 52 #[.int .i64 p, .int .i64 l, .int .i64 f, .int .i64 t])
                replace HBx := Lib.hid (below_new HBx.out (.cells #[.int .i64 p, .int .i64 l, .int .i64 f, .int .i64 t] 52))
                obtain ⟨hx9, -, -⟩ := FX.out _ HBx.out
                refine hK.out _ _ hx9 (fun hHeld => ?_)
                clear hK K9 hx9
                refine wpAnyH_ready (rs := [7]) (by kernel_rfl) (by simp) ?_
                refine AllReadyH.cons (o := _) rfl (fun K9 hK => ?_) AllReadyH.nil
                refine step_part rfl _ _ rfl Wx.heap.size _ _ _ rfl H33.out _ _ _ rfl (part_one K6.out) (by omega) HBx.out.size ?_
                intro v9 w9 ho9 hg9
                have hb9 := (Own.of H33.out).frame HBx.out (Nat.le_refl _) HBx.out.size hg9
                replace HBx := Lib.hid hb9
                have H36 := Lib.hid ho9
                clear ho9 hg9 hb9
                go_simp
                obtain ⟨hx9, -, -⟩ := FX.out _ HBx.out
                refine hK.out _ _ hx9 (fun hHeld => ?_)
                clear hK K9 hx9
                refine wpAnyH_ready (rs := [11]) (by kernel_rfl) (by simp) ?_
                refine AllReadyH.cons (o := _) rfl (fun K9 hK => ?_) AllReadyH.nil
                refine step_part rfl _ _ rfl Wx.heap.size _ _ _ rfl H36.out _ _ _ rfl (FX.out _ HBx.out).2.2 (by omega) HBx.out.size ?_
                intro v9 w9 ho9 hg9
                have hb9 := (Own.of H36.out).frame HBx.out (Nat.le_refl _) HBx.out.size hg9
                replace HBx := Lib.hid hb9
                have H40 := Lib.hid ho9
                clear ho9 hg9 hb9
                go_simp
                obtain ⟨hx9, -, -⟩ := FX.out _ HBx.out
                refine hK.out _ _ hx9 (fun hHeld => ?_)
                clear hK K9 hx9
                refine wpAnyH_ready (rs := [12]) (by kernel_rfl) (by simp) ?_
                refine AllReadyH.cons (o := _) rfl (fun K9 hK => ?_) AllReadyH.nil
                go_simp
                obtain ⟨hx9, -, -⟩ := FX.out _ HBx.out
                refine hK.out _ _ hx9 (fun hHeld => ?_)
                clear hK K9 hx9
                refine wpAnyH_done (by kernel_rfl) ?_ _
                exact ⟨rfl, _, meet_at ⟨own_cast (own_base H40.out HSx.out) (by first | omega | (have := Hk0.out; omega)) (by rw [HN2.out, List.nil_append]), below_on HBw.out HBx.out⟩ (by kernel_rfl)⟩
              · go_simp
                replace H29 := Lib.hid (own_below H29.out (below_new (Below.refl _ _) (.cells #[.int .i64 p, .int .i64 l, .int .i64 f, .int .i64 t] 52)) (Nat.le_refl _))
                have K6 := Lib.hid (Blk.new (Wx.drew.alloc (.cells #[] 52)) 52 #[.int .i64 p, .int .i64 l, .int .i64 f, .int .i64 t])
                replace HBx := Lib.hid (below_new HBx.out (.cells #[.int .i64 p, .int .i64 l, .int .i64 f, .int .i64 t] 52))
                have hz : (Wx.drew.alloc (.cells #[] 52)).heap.size = Wx.heap.size + 1 := by simp
                replace K6 := Lib.hid (hz ▸ K6.out)
                clear hz
                obtain ⟨hx9, -, -⟩ := FX.out _ HBx.out
                refine hK.out _ _ hx9 (fun hHeld => ?_)
                clear hK K9 hx9
                refine wpAnyH_ready (rs := [4]) (by kernel_rfl) (by simp) ?_
                refine AllReadyH.cons (o := _) rfl (fun K9 hK => ?_) AllReadyH.nil
                refine step_part rfl _ _ rfl Wx.heap.size _ _ _ rfl H29.out _ _ _ rfl (FX.out _ HBx.out).2.1 (by omega) HBx.out.size ?_
                intro v9 w9 ho9 hg9
                have hb9 := (Own.of H29.out).frame HBx.out (Nat.le_refl _) HBx.out.size hg9
                have hne : some (Wx.heap.size + 1) ≠ (Value.slice (some ⟨Wx.heap.size, 0, none⟩) 0 0).ownBlock := by simp [Value.ownBlock]
                replace K6 := Lib.hid (K6.out.grown hg9 hne)
                replace HBx := Lib.hid hb9
                have H33 := Lib.hid ho9
                clear ho9 hg9 hb9
                go_simp
                obtain ⟨hx9, -, -⟩ := FX.out _ HBx.out
                refine hK.out _ _ hx9 (fun hHeld => ?_)
                clear hK K9 hx9
                refine wpAnyH_ready (rs := [7]) (by kernel_rfl) (by simp) ?_
                refine AllReadyH.cons (o := _) rfl (fun K9 hK => ?_) AllReadyH.nil
                refine step_part rfl _ _ rfl Wx.heap.size _ _ _ rfl H33.out _ _ _ rfl (part_one K6.out) (by omega) HBx.out.size ?_
                intro v9 w9 ho9 hg9
                have hb9 := (Own.of H33.out).frame HBx.out (Nat.le_refl _) HBx.out.size hg9
                replace HBx := Lib.hid hb9
                have H36 := Lib.hid ho9
                clear ho9 hg9 hb9
                go_simp
                obtain ⟨hx9, -, -⟩ := FX.out _ HBx.out
                refine hK.out _ _ hx9 (fun hHeld => ?_)
                clear hK K9 hx9
                refine wpAnyH_ready (rs := [11]) (by kernel_rfl) (by simp) ?_
                refine AllReadyH.cons (o := _) rfl (fun K9 hK => ?_) AllReadyH.nil
                refine step_part rfl _ _ rfl Wx.heap.size _ _ _ rfl H36.out _ _ _ rfl (FX.out _ HBx.out).2.2 (by omega) HBx.out.size ?_
                intro v9 w9 ho9 hg9
                have hb9 := (Own.of H36.out).frame HBx.out (Nat.le_refl _) HBx.out.size hg9
                replace HBx := Lib.hid hb9
                have H40 := Lib.hid ho9
                clear ho9 hg9 hb9
                go_simp
                obtain ⟨hx9, -, -⟩ := FX.out _ HBx.out
                refine hK.out _ _ hx9 (fun hHeld => ?_)
                clear hK K9 hx9
                refine wpAnyH_ready (rs := [12]) (by kernel_rfl) (by simp) ?_
                refine AllReadyH.cons (o := _) rfl (fun K9 hK => ?_) AllReadyH.nil
                go_simp
                obtain ⟨hx9, -, -⟩ := FX.out _ HBx.out
                refine hK.out _ _ hx9 (fun hHeld => ?_)
                clear hK K9 hx9
                refine wpAnyH_done (by kernel_rfl) ?_ _
                exact ⟨rfl, _, meet_at ⟨own_cast (own_base H40.out HSx.out) (by first | omega | (have := Hk0.out; omega)) (by rw [HN2.out, List.nil_append]), below_on HBw.out HBx.out⟩ (by kernel_rfl)⟩
            · go_simp
              have K6 := Lib.hid (Blk.new (Wx.drew) 52 #[.int .i64 p, .int .i64 l, .int .i64 f, .int .i64 t])
              replace HBx := Lib.hid (below_new HBx.out (.cells #[.int .i64 p, .int .i64 l, .int .i64 f, .int .i64 t] 52))
              obtain ⟨hx9, -, -⟩ := FX.out _ HBx.out
              refine hK.out _ _ hx9 (fun hHeld => ?_)
              clear hK K9 hx9
              refine wpAnyH_ready (rs := [0]) (by kernel_rfl) (by simp) ?_
              refine AllReadyH.cons (o := _) rfl (fun K9 hK => ?_) AllReadyH.nil
              go_simp
              have H29 := Lib.hid (show World.ownsRow _ Wx.heap.size 52 4 _ 0 (ints []) from own_base (own_empty (Wx.drew.alloc (.cells #[.int .i64 p, .int .i64 l, .int .i64 f, .int .i64 t] 52)) 52 4) (base' := Wx.heap.size) HBx.out.size)
              replace HBx := Lib.hid (below_new HBx.out (.cells #[] 52))
              replace K6 := Lib.hid (K6.out.alloc (.cells #[] 52))
              have hz : (Wx.drew.alloc (.cells #[.int .i64 p, .int .i64 l, .int .i64 f, .int .i64 t] 52)).heap.size = Wx.heap.size + 1 := by simp
              replace H29 := Lib.hid (show World.ownsRow _ Wx.heap.size 52 4 (.slice (some ⟨Wx.heap.size + 1, 0, none⟩) 0 0) 0 (ints []) from by have := H29.out; rw [hz] at this; exact this)
              clear hz
              obtain ⟨hx9, -, -⟩ := FX.out _ HBx.out
              refine hK.out _ _ hx9 (fun hHeld => ?_)
              clear hK K9 hx9
              refine wpAnyH_ready (rs := [4]) (by kernel_rfl) (by simp) ?_
              refine AllReadyH.cons (o := _) rfl (fun K9 hK => ?_) AllReadyH.nil
              refine step_part rfl _ _ rfl Wx.heap.size _ _ _ rfl H29.out _ _ _ rfl (FX.out _ HBx.out).2.1 (by omega) HBx.out.size ?_
              intro v9 w9 ho9 hg9
              have hb9 := (Own.of H29.out).frame HBx.out (Nat.le_refl _) HBx.out.size hg9
              have hne : some Wx.heap.size ≠ (Value.slice (some ⟨Wx.heap.size + 1, 0, none⟩) 0 0).ownBlock := by simp [Value.ownBlock]
              replace K6 := Lib.hid (K6.out.grown hg9 hne)
              replace HBx := Lib.hid hb9
              have H33 := Lib.hid ho9
              clear ho9 hg9 hb9
              go_simp
              obtain ⟨hx9, -, -⟩ := FX.out _ HBx.out
              refine hK.out _ _ hx9 (fun hHeld => ?_)
              clear hK K9 hx9
              refine wpAnyH_ready (rs := [7]) (by kernel_rfl) (by simp) ?_
              refine AllReadyH.cons (o := _) rfl (fun K9 hK => ?_) AllReadyH.nil
              refine step_part rfl _ _ rfl Wx.heap.size _ _ _ rfl H33.out _ _ _ rfl (part_one K6.out) (by omega) HBx.out.size ?_
              intro v9 w9 ho9 hg9
              have hb9 := (Own.of H33.out).frame HBx.out (Nat.le_refl _) HBx.out.size hg9
              replace HBx := Lib.hid hb9
              have H36 := Lib.hid ho9
              clear ho9 hg9 hb9
              go_simp
              obtain ⟨hx9, -, -⟩ := FX.out _ HBx.out
              refine hK.out _ _ hx9 (fun hHeld => ?_)
              clear hK K9 hx9
              refine wpAnyH_ready (rs := [11]) (by kernel_rfl) (by simp) ?_
              refine AllReadyH.cons (o := _) rfl (fun K9 hK => ?_) AllReadyH.nil
              refine step_part rfl _ _ rfl Wx.heap.size _ _ _ rfl H36.out _ _ _ rfl (FX.out _ HBx.out).2.2 (by omega) HBx.out.size ?_
              intro v9 w9 ho9 hg9
              have hb9 := (Own.of H36.out).frame HBx.out (Nat.le_refl _) HBx.out.size hg9
              replace HBx := Lib.hid hb9
              have H40 := Lib.hid ho9
              clear ho9 hg9 hb9
              go_simp
              obtain ⟨hx9, -, -⟩ := FX.out _ HBx.out
              refine hK.out _ _ hx9 (fun hHeld => ?_)
              clear hK K9 hx9
              refine wpAnyH_ready (rs := [12]) (by kernel_rfl) (by simp) ?_
              refine AllReadyH.cons (o := _) rfl (fun K9 hK => ?_) AllReadyH.nil
              go_simp
              obtain ⟨hx9, -, -⟩ := FX.out _ HBx.out
              refine hK.out _ _ hx9 (fun hHeld => ?_)
              clear hK K9 hx9
              refine wpAnyH_done (by kernel_rfl) ?_ _
              exact ⟨rfl, _, meet_at ⟨own_cast (own_base H40.out HSx.out) (by first | omega | (have := Hk0.out; omega)) (by rw [HN2.out, List.nil_append]), below_on HBw.out HBx.out⟩ (by kernel_rfl)⟩
      · have HC := Lib.hid (show ∀ q, q < k * 4 → W0.cell? ⟨g, q, none⟩ = some (.int .i64 (ys.getD q 0)) from fun q hq => by
          have := HO.out.cellAt q hq
          rw [ints_get ys q (by rw [Hyl.out]; exact hq)] at this
          exact this)
        have hgl2 : g < W0.heap.size := (Array.getElem?_eq_some_iff.1 hgh).1
        clear hgh
        go_wp2_with fail
        go_loopw [7] (fun s wq => ∃ j : Nat, j ≤ k ∧ s = .int .i64 j ∧ posOf ys l f k = posOf ys l f j ∧ Below W0.heap.size W0 wq) (fun s _ => (intOf s).toNat)
        case atStart => exact ⟨k, Nat.le_refl _, rfl, rfl, Below.refl _ _⟩
        case round =>
          obtain ⟨j, hj, rfl, hpos, hb⟩ := hrel
          have HB := Lib.hid hb
          by_cases hj0 : 0 < j
          · have hd : decide ((0 : Int) < (j : Int)) = true := by simp; omega
            have cc := fun q (hq : q < k * 4) => (HB.out.cell (p := ⟨g, q, none⟩) hgl2).trans (HC.out q hq)
            obtain ⟨p1, ep1⟩ : ∃ a, ys.getD ((j - 1) * 4) 0 = a := ⟨_, rfl⟩
            obtain ⟨l1, el1⟩ : ∃ a, ys.getD ((j - 1) * 4 + 1) 0 = a := ⟨_, rfl⟩
            obtain ⟨f1, ef1⟩ : ∃ a, ys.getD ((j - 1) * 4 + 2) 0 = a := ⟨_, rfl⟩
            obtain ⟨t1, et1⟩ : ∃ a, ys.getD ((j - 1) * 4 + 3) 0 = a := ⟨_, rfl⟩
            have m0 := cc ((j - 1) * 4) (by omega)
            have m1 := cc ((j - 1) * 4 + 1) (by omega)
            have m2 := cc ((j - 1) * 4 + 2) (by omega)
            have m3 := cc ((j - 1) * 4 + 3) (by omega)
            rw [ep1] at m0
            rw [el1] at m1
            rw [ef1] at m2
            rw [et1] at m3
            have i3 : (0 : Int) ≤ (j : Int) - 1 := by omega
            have i4 : (j : Int) - 1 < (k : Int) := by omega
            have i5 : ((j : Int) - 1).toNat = j - 1 := by omega
            have i6 := IntWalk.i64_in ((j : Int) - 1) (by omega)
            have i7 : (1 : Int) ≤ (j : Int) := by omega
            have i8 : (j : Int) ≤ (k : Int) := by omega
            have i9 : (0 : Int) < (j : Int) := by omega
            have hP := fun W => caBefore_any p l f t p1 l1 f1 t1 W
            obtain ⟨q, eq⟩ : ∃ q, befB l f l1 f1 = q := ⟨_, rfl⟩
            have hq : befB l f (cL ys (j - 1)) (cF ys (j - 1)) = q := by rw [← eq, ← el1, ← ef1]; rfl
            rw [eq] at hP
            have HP := Lib.hid hP
            obtain ⟨a0, a1, a2, a3⟩ := (K.out.on HB.out).c4
            cases q with
            | true =>
              have HQ := Lib.hid (hpos.trans (posOf_yes hj0 hq))
              clear hpos hq eq hP ep1 el1 ef1 et1 cc hb
              go_wp2_with fail
              go_region_held3 (fun W => W.cell? ⟨g, (j - 1) * 4, none⟩ = some (.int .i64 p1) ∧ W.cell? ⟨g, (j - 1) * 4 + 1, none⟩ = some (.int .i64 l1) ∧ W.cell? ⟨g, (j - 1) * 4 + 2, none⟩ = some (.int .i64 f1) ∧ W.cell? ⟨g, (j - 1) * 4 + 3, none⟩ = some (.int .i64 t1) ∧ W.cell? ⟨wo.heap.size, 0, none⟩ = some (.int .i64 p) ∧ W.cell? ⟨wo.heap.size, 1, none⟩ = some (.int .i64 l) ∧ W.cell? ⟨wo.heap.size, 2, none⟩ = some (.int .i64 f) ∧ W.cell? ⟨wo.heap.size, 3, none⟩ = some (.int .i64 t) ∧ Below W0.heap.size W0 W)
                (first | exact ⟨m0, m1, m2, m3, a0, a1, a2, a3, HB.out.drew⟩ | (go_split_ands; exact ⟨cell_on hb2 (by assumption), cell_on hb2 (by assumption), cell_on hb2 (by assumption), cell_on hb2 (by assumption), cell_on hb2 (by assumption), cell_on hb2 (by assumption), cell_on hb2 (by assumption), cell_on hb2 (by assumption), below_on (by assumption) hb2⟩) | (go_split_ands; exact ⟨by assumption, by assumption, by assumption, by assumption, by assumption, by assumption, by assumption, by assumption, by assumption⟩) | go_keep)
                (first | (go_at_call 52; refine (HP.out _).mono ?_; rintro e w2 ⟨rfl, hb2⟩))
              go_split_ands
              rename_i hb9
              have HB2 := Lib.hid hb9
              clear hb9 m0 m1 m2 m3 a0 a1 a2 a3 HB
              go_wp2_with fail
              go_roundw
              case rel =>
                first
                | exact ⟨j - 1, by omega, by go_num, HQ.out, HB2.out⟩
                | ((repeat apply Exists.intro); exact ⟨⟨j - 1, by omega, by go_num, HQ.out, HB2.out⟩, rfl⟩)
              case measure => simp [intOf]; omega
            | false =>
              have HQ := Lib.hid (hpos.trans (posOf_no hj0 hq))
              clear hpos hq eq hP ep1 el1 ef1 et1 cc hb
              go_wp2_with fail
              go_region_held3 (fun W => W.cell? ⟨g, (j - 1) * 4, none⟩ = some (.int .i64 p1) ∧ W.cell? ⟨g, (j - 1) * 4 + 1, none⟩ = some (.int .i64 l1) ∧ W.cell? ⟨g, (j - 1) * 4 + 2, none⟩ = some (.int .i64 f1) ∧ W.cell? ⟨g, (j - 1) * 4 + 3, none⟩ = some (.int .i64 t1) ∧ W.cell? ⟨wo.heap.size, 0, none⟩ = some (.int .i64 p) ∧ W.cell? ⟨wo.heap.size, 1, none⟩ = some (.int .i64 l) ∧ W.cell? ⟨wo.heap.size, 2, none⟩ = some (.int .i64 f) ∧ W.cell? ⟨wo.heap.size, 3, none⟩ = some (.int .i64 t) ∧ Below W0.heap.size W0 W)
                (first | exact ⟨m0, m1, m2, m3, a0, a1, a2, a3, HB.out.drew⟩ | (go_split_ands; exact ⟨cell_on hb2 (by assumption), cell_on hb2 (by assumption), cell_on hb2 (by assumption), cell_on hb2 (by assumption), cell_on hb2 (by assumption), cell_on hb2 (by assumption), cell_on hb2 (by assumption), cell_on hb2 (by assumption), below_on (by assumption) hb2⟩) | (go_split_ands; exact ⟨by assumption, by assumption, by assumption, by assumption, by assumption, by assumption, by assumption, by assumption, by assumption⟩) | go_keep)
                (first | (go_at_call 52; refine (HP.out _).mono ?_; rintro e w2 ⟨rfl, hb2⟩))
              go_split_ands
              rename_i hb9
              have HB2 := Lib.hid hb9
              clear hb9 m0 m1 m2 m3 a0 a1 a2 a3 HB
              rename World => Wx
              have FX := Lib.hid (show ∀ W, Below Wx.heap.size Wx W → (W.cell? ⟨wo.heap.size, 0, none⟩ = some (.int .i64 p) ∧ W.cell? ⟨wo.heap.size, 1, none⟩ = some (.int .i64 l) ∧ W.cell? ⟨wo.heap.size, 2, none⟩ = some (.int .i64 f) ∧ W.cell? ⟨wo.heap.size, 3, none⟩ = some (.int .i64 t)) ∧
                  Part W 4 (.slice (some ⟨g, 0, none⟩) j cap) j (ys.take (j * 4)) ∧ Part W 4 (.slice (if cap = j then some ⟨g, 0, none⟩ else some ⟨g, j * 4, none⟩) (k - j) (cap - j)) (k - j) (ys.drop (j * 4)) from fun W hW => by
                have h0 := below_on HB2.out hW
                have h1 : ∀ q, q < k * 4 → W.cell? ⟨g, 0 + q, none⟩ = some (.int .i64 (ys.getD q 0)) := fun q hq => by rw [Nat.zero_add]; exact (h0.cell (p := ⟨g, q, none⟩) hgl2).trans (HC.out q hq)
                refine ⟨(K.out.on h0).c4, part_first Hyl.out hj h1, ?_⟩
                have h2 := part_last (c := cap - j) Hyl.out hj h1
                by_cases hcj : cap = j
                · rw [if_pos hcj]
                  exact ⟨h2.1, .inr ⟨_, _, rfl, fun q hq => absurd hq (by omega)⟩⟩
                · rw [if_neg hcj]
                  rw [Nat.zero_add] at h2
                  exact h2)
              have i10 : (j : Int) ≤ (cap : Int) := by omega
              have i11 : ¬ cap < j := by omega
              have HBw := Lib.hid (below_on HB0.out HB2.out)
              have HSx := Lib.hid (show w.heap.size ≤ Wx.heap.size from HBw.out.size)
              have HN2 := Lib.hid (HN.out j HQ.out)
              go_upto_region 8 with (fail)
              refine Code.wp_mono (Q := fun e a' wk => e = .normal ∧ ∃ (u : Value) (f : Nat → Value), (wk.ownsRow w.heap.size 52 4 u (k + 1) (ints (csTo xs (k + 1))) ∧ Below w.heap.size w wk) ∧ a' = ⟨#[.slice (some ⟨b, off, none⟩) n c, undef, .slice none 0 0, .bool false, u, undef, f 6, f 7, .slice (some ⟨b, off, none⟩) n c, .int .i64 (n : Int), .int .i64 (k : Int), f 11, f 12, f 13, f 14, f 15, f 16, f 17, f 18, f 19, f 20, f 21, f 22, f 23, f 24, f 25, f 26, f 27, f 28, f 29, f 30, f 31, f 32, f 33, f 34, f 35, f 36, f 37, f 38, f 39, f 40, f 41, undef, undef, undef, undef], []⟩) ?rest ?first
              case rest =>
                rintro _ _ wk ⟨rfl, u, f, ⟨hown, hb⟩, rfl⟩
                have HO9 := Lib.hid hown
                have HB9 := Lib.hid hb
                clear hown hb
                go_wp2_with fail
                go_roundw
                case rel =>
                  first
                  | exact ⟨k + 1, by omega, by go_num, HO9.out, HB9.out⟩
                  | ((repeat apply Exists.intro); exact ⟨⟨k + 1, by omega, by go_num, HO9.out, HB9.out⟩, rfl⟩)
                case measure => simp [intOf]; omega
              case first =>
                refine wp_region_held_drew (S := fun W => W.cell? ⟨wo.heap.size, 0, none⟩ = some (.int .i64 p) ∧ W.cell? ⟨wo.heap.size, 1, none⟩ = some (.int .i64 l) ∧ W.cell? ⟨wo.heap.size, 2, none⟩ = some (.int .i64 f) ∧ W.cell? ⟨wo.heap.size, 3, none⟩ = some (.int .i64 t)) (by kernel_rfl) (FX.out _ (Below.refl _ _)).1 (fun hHeld => ?_)
                have HBx := Lib.hid ((Below.refl Wx.heap.size Wx).drew)
                refine take_at (i := 1) (oi := _) 30 (v := .slice (some ⟨g, 0, none⟩) k cap) rfl rfl (by kernel_rfl) (by kernel_rfl) (by kernel_rfl) (fun _ _ _ h => (by cases h.1)) (Or.inl ⟨by rfl, ?_⟩) hHeld ?_
                · (intro w hSw; (try dsimp only at hSw); go_split_ands; go_simp)
                simp only [List.setIfInBounds_toArray, List.set_cons_zero, List.set_cons_succ]
                refine take_at (i := 2) (oi := _) 31 (v := .int .i64 ((j : Nat) : Int)) rfl rfl (by kernel_rfl) (by kernel_rfl) (by kernel_rfl) (fun _ _ _ h => (by cases h.1)) (Or.inl ⟨by rfl, ?_⟩) hHeld ?_
                · (intro w hSw; (try dsimp only at hSw); go_split_ands; go_simp)
                simp only [List.setIfInBounds_toArray, List.set_cons_zero, List.set_cons_succ]
                refine take_at (i := 3) (oi := _) 32 (v := .slice (some ⟨g, 0, none⟩) j cap) rfl rfl (by kernel_rfl) (by kernel_rfl) (by kernel_rfl) (fun _ _ _ h => (by cases h.1)) (Or.inl ⟨by rfl, ?_⟩) hHeld ?_
                · (intro w hSw; (try dsimp only at hSw); go_split_ands; go_simp)
                simp only [List.setIfInBounds_toArray, List.set_cons_zero, List.set_cons_succ]
                refine take_at (i := 5) (oi := _) 34 (v := (Value.agg #[Value.int .i64 p, Value.int .i64 l, Value.int .i64 f, Value.int .i64 t])) rfl rfl (by kernel_rfl) (by kernel_rfl) (by kernel_rfl) (fun _ _ _ h => (by cases h.1)) (Or.inl ⟨by rfl, ?_⟩) hHeld ?_
                · (intro w hSw; (try dsimp only at hSw); go_split_ands; go_simp)
                simp only [List.setIfInBounds_toArray, List.set_cons_zero, List.set_cons_succ]
                refine take_at (i := 8) (oi := _) 37 (v := .slice (some ⟨g, 0, none⟩) k cap) rfl rfl (by kernel_rfl) (by kernel_rfl) (by kernel_rfl) (fun _ _ _ h => (by cases h.1)) (Or.inl ⟨by rfl, ?_⟩) hHeld ?_
                · (intro w hSw; (try dsimp only at hSw); go_split_ands; go_simp)
                simp only [List.setIfInBounds_toArray, List.set_cons_zero, List.set_cons_succ]
                refine take_at (i := 9) (oi := _) 38 (v := .int .i64 ((j : Nat) : Int)) rfl rfl (by kernel_rfl) (by kernel_rfl) (by kernel_rfl) (fun _ _ _ h => (by cases h.1)) (Or.inl ⟨by rfl, ?_⟩) hHeld ?_
                · (intro w hSw; (try dsimp only at hSw); go_split_ands; go_simp)
                simp only [List.setIfInBounds_toArray, List.set_cons_zero, List.set_cons_succ]
                refine take_at (i := 10) (oi := _) 39 (v := .slice (if cap = j then some ⟨g, 0, none⟩ else some ⟨g, j * 4, none⟩) (k - j) (cap - j)) rfl rfl (by kernel_rfl) (by kernel_rfl) (by kernel_rfl) (fun _ _ _ h => (by cases h.1)) (Or.inl ⟨by rfl, ?_⟩) hHeld ?_
                · (intro w hSw; (try dsimp only at hSw); go_split_ands; go_simp)
                simp only [List.setIfInBounds_toArray, List.set_cons_zero, List.set_cons_succ]
                refine wpAnyH_ready (rs := [0, 6]) (by kernel_rfl) (by simp) ?_
                refine AllReadyH.cons (o := _) rfl (fun K9 hK => ?_) (AllReadyH.cons (o := _) rfl (fun K9 hK => ?_) AllReadyH.nil)
                · go_simp
                  have H29 := Lib.hid (show World.ownsRow _ Wx.heap.size 52 4 _ 0 (ints []) from own_base (own_empty (Wx.drew) 52 4) (base' := Wx.heap.size) HBx.out.size)
                  replace HBx := Lib.hid (below_new HBx.out (.cells #[] 52))
                  obtain ⟨hx9, -, -⟩ := FX.out _ HBx.out
                  refine hK.out _ _ hx9 (fun hHeld => ?_)
                  clear hK K9 hx9
                  refine wpAnyH_ready (rs := [4, 6]) (by kernel_rfl) (by simp) ?_
                  refine AllReadyH.cons (o := _) rfl (fun K9 hK => ?_) (AllReadyH.cons (o := _) rfl (fun K9 hK => ?_) AllReadyH.nil)
                  · refine step_part rfl _ _ rfl Wx.heap.size _ _ _ rfl H29.out _ _ _ rfl (FX.out _ HBx.out).2.1 (by omega) HBx.out.size ?_
                    intro v9 w9 ho9 hg9
                    have hb9 := (Own.of H29.out).frame HBx.out (Nat.le_refl _) HBx.out.size hg9
                    replace HBx := Lib.hid hb9
                    have H33 := Lib.hid ho9
                    clear ho9 hg9 hb9
                    go_simp
                    obtain ⟨hx9, -, -⟩ := FX.out _ HBx.out
                    refine hK.out _ _ hx9 (fun hHeld => ?_)
                    clear hK K9 hx9
                    refine wpAnyH_ready (rs := [6]) (by kernel_rfl) (by simp) ?_
                    refine AllReadyH.cons (o := _) rfl (fun K9 hK => ?_) AllReadyH.nil
                    go_simp
                    replace H33 := Lib.hid (own_below H33.out (below_new (Below.refl _ _) (.cells #[.int .i64 p, .int .i64 l, .int .i64 f, .int .i64 t] 52)) (Nat.le_refl _))
                    have K6 := Lib.hid (Blk.new (w9) 52 #[.int .i64 p, .int .i64 l, .int .i64 f, .int .i64 t])
                    replace HBx := Lib.hid (below_new HBx.out (.cells #[.int .i64 p, .int .i64 l, .int .i64 f, .int .i64 t] 52))
                    obtain ⟨hx9, -, -⟩ := FX.out _ HBx.out
                    refine hK.out _ _ hx9 (fun hHeld => ?_)
                    clear hK K9 hx9
                    refine wpAnyH_ready (rs := [7]) (by kernel_rfl) (by simp) ?_
                    refine AllReadyH.cons (o := _) rfl (fun K9 hK => ?_) AllReadyH.nil
                    refine step_part rfl _ _ rfl Wx.heap.size _ _ _ rfl H33.out _ _ _ rfl (part_one K6.out) (by omega) HBx.out.size ?_
                    intro v9 w9 ho9 hg9
                    have hb9 := (Own.of H33.out).frame HBx.out (Nat.le_refl _) HBx.out.size hg9
                    replace HBx := Lib.hid hb9
                    have H36 := Lib.hid ho9
                    clear ho9 hg9 hb9
                    go_simp
                    obtain ⟨hx9, -, -⟩ := FX.out _ HBx.out
                    refine hK.out _ _ hx9 (fun hHeld => ?_)
                    clear hK K9 hx9
                    refine wpAnyH_ready (rs := [11]) (by kernel_rfl) (by simp) ?_
                    refine AllReadyH.cons (o := _) rfl (fun K9 hK => ?_) AllReadyH.nil
                    refine step_part rfl _ _ rfl Wx.heap.size _ _ _ rfl H36.out _ _ _ rfl (FX.out _ HBx.out).2.2 (by omega) HBx.out.size ?_
                    intro v9 w9 ho9 hg9
                    have hb9 := (Own.of H36.out).frame HBx.out (Nat.le_refl _) HBx.out.size hg9
                    replace HBx := Lib.hid hb9
                    have H40 := Lib.hid ho9
                    clear ho9 hg9 hb9
                    go_simp
                    obtain ⟨hx9, -, -⟩ := FX.out _ HBx.out
                    refine hK.out _ _ hx9 (fun hHeld => ?_)
                    clear hK K9 hx9
                    refine wpAnyH_ready (rs := [12]) (by kernel_rfl) (by simp) ?_
                    refine AllReadyH.cons (o := _) rfl (fun K9 hK => ?_) AllReadyH.nil
                    go_simp
                    obtain ⟨hx9, -, -⟩ := FX.out _ HBx.out
                    refine hK.out _ _ hx9 (fun hHeld => ?_)
                    clear hK K9 hx9
                    refine wpAnyH_done (by kernel_rfl) ?_ _
                    exact ⟨rfl, _, meet_at ⟨own_cast (own_base H40.out HSx.out) (by first | omega | (have := Hk0.out; omega)) (by rw [HN2.out, List.nil_append]), below_on HBw.out HBx.out⟩ (by kernel_rfl)⟩
                  · go_simp
                    replace H29 := Lib.hid (own_below H29.out (below_new (Below.refl _ _) (.cells #[.int .i64 p, .int .i64 l, .int .i64 f, .int .i64 t] 52)) (Nat.le_refl _))
                    have K6 := Lib.hid (Blk.new (Wx.drew.alloc (.cells #[] 52)) 52 #[.int .i64 p, .int .i64 l, .int .i64 f, .int .i64 t])
                    replace HBx := Lib.hid (below_new HBx.out (.cells #[.int .i64 p, .int .i64 l, .int .i64 f, .int .i64 t] 52))
                    have hz : (Wx.drew.alloc (.cells #[] 52)).heap.size = Wx.heap.size + 1 := by simp
                    replace K6 := Lib.hid (hz ▸ K6.out)
                    clear hz
                    obtain ⟨hx9, -, -⟩ := FX.out _ HBx.out
                    refine hK.out _ _ hx9 (fun hHeld => ?_)
                    clear hK K9 hx9
                    refine wpAnyH_ready (rs := [4]) (by kernel_rfl) (by simp) ?_
                    refine AllReadyH.cons (o := _) rfl (fun K9 hK => ?_) AllReadyH.nil
                    refine step_part rfl _ _ rfl Wx.heap.size _ _ _ rfl H29.out _ _ _ rfl (FX.out _ HBx.out).2.1 (by omega) HBx.out.size ?_
                    intro v9 w9 ho9 hg9
                    have hb9 := (Own.of H29.out).frame HBx.out (Nat.le_refl _) HBx.out.size hg9
                    have hne : some (Wx.heap.size + 1) ≠ (Value.slice (some ⟨Wx.heap.size, 0, none⟩) 0 0).ownBlock := by simp [Value.ownBlock]
                    replace K6 := Lib.hid (K6.out.grown hg9 hne)
                    replace HBx := Lib.hid hb9
                    have H33 := Lib.hid ho9
                    clear ho9 hg9 hb9
                    go_simp
                    obtain ⟨hx9, -, -⟩ := FX.out _ HBx.out
                    refine hK.out _ _ hx9 (fun hHeld => ?_)
                    clear hK K9 hx9
                    refine wpAnyH_ready (rs := [7]) (by kernel_rfl) (by simp) ?_
                    refine AllReadyH.cons (o := _) rfl (fun K9 hK => ?_) AllReadyH.nil
                    refine step_part rfl _ _ rfl Wx.heap.size _ _ _ rfl H33.out _ _ _ rfl (part_one K6.out) (by omega) HBx.out.size ?_
                    intro v9 w9 ho9 hg9
                    have hb9 := (Own.of H33.out).frame HBx.out (Nat.le_refl _) HBx.out.size hg9
                    replace HBx := Lib.hid hb9
                    have H36 := Lib.hid ho9
                    clear ho9 hg9 hb9
                    go_simp
                    obtain ⟨hx9, -, -⟩ := FX.out _ HBx.out
                    refine hK.out _ _ hx9 (fun hHeld => ?_)
                    clear hK K9 hx9
                    refine wpAnyH_ready (rs := [11]) (by kernel_rfl) (by simp) ?_
                    refine AllReadyH.cons (o := _) rfl (fun K9 hK => ?_) AllReadyH.nil
                    refine step_part rfl _ _ rfl Wx.heap.size _ _ _ rfl H36.out _ _ _ rfl (FX.out _ HBx.out).2.2 (by omega) HBx.out.size ?_
                    intro v9 w9 ho9 hg9
                    have hb9 := (Own.of H36.out).frame HBx.out (Nat.le_refl _) HBx.out.size hg9
                    replace HBx := Lib.hid hb9
                    have H40 := Lib.hid ho9
                    clear ho9 hg9 hb9
                    go_simp
                    obtain ⟨hx9, -, -⟩ := FX.out _ HBx.out
                    refine hK.out _ _ hx9 (fun hHeld => ?_)
                    clear hK K9 hx9
                    refine wpAnyH_ready (rs := [12]) (by kernel_rfl) (by simp) ?_
                    refine AllReadyH.cons (o := _) rfl (fun K9 hK => ?_) AllReadyH.nil
                    go_simp
                    obtain ⟨hx9, -, -⟩ := FX.out _ HBx.out
                    refine hK.out _ _ hx9 (fun hHeld => ?_)
                    clear hK K9 hx9
                    refine wpAnyH_done (by kernel_rfl) ?_ _
                    exact ⟨rfl, _, meet_at ⟨own_cast (own_base H40.out HSx.out) (by first | omega | (have := Hk0.out; omega)) (by rw [HN2.out, List.nil_append]), below_on HBw.out HBx.out⟩ (by kernel_rfl)⟩
                · go_simp
                  have K6 := Lib.hid (Blk.new (Wx.drew) 52 #[.int .i64 p, .int .i64 l, .int .i64 f, .int .i64 t])
                  replace HBx := Lib.hid (below_new HBx.out (.cells #[.int .i64 p, .int .i64 l, .int .i64 f, .int .i64 t] 52))
                  obtain ⟨hx9, -, -⟩ := FX.out _ HBx.out
                  refine hK.out _ _ hx9 (fun hHeld => ?_)
                  clear hK K9 hx9
                  refine wpAnyH_ready (rs := [0]) (by kernel_rfl) (by simp) ?_
                  refine AllReadyH.cons (o := _) rfl (fun K9 hK => ?_) AllReadyH.nil
                  go_simp
                  have H29 := Lib.hid (show World.ownsRow _ Wx.heap.size 52 4 _ 0 (ints []) from own_base (own_empty (Wx.drew.alloc (.cells #[.int .i64 p, .int .i64 l, .int .i64 f, .int .i64 t] 52)) 52 4) (base' := Wx.heap.size) HBx.out.size)
                  replace HBx := Lib.hid (below_new HBx.out (.cells #[] 52))
                  replace K6 := Lib.hid (K6.out.alloc (.cells #[] 52))
                  have hz : (Wx.drew.alloc (.cells #[.int .i64 p, .int .i64 l, .int .i64 f, .int .i64 t] 52)).heap.size = Wx.heap.size + 1 := by simp
                  replace H29 := Lib.hid (show World.ownsRow _ Wx.heap.size 52 4 (.slice (some ⟨Wx.heap.size + 1, 0, none⟩) 0 0) 0 (ints []) from by have := H29.out; rw [hz] at this; exact this)
                  clear hz
                  obtain ⟨hx9, -, -⟩ := FX.out _ HBx.out
                  refine hK.out _ _ hx9 (fun hHeld => ?_)
                  clear hK K9 hx9
                  refine wpAnyH_ready (rs := [4]) (by kernel_rfl) (by simp) ?_
                  refine AllReadyH.cons (o := _) rfl (fun K9 hK => ?_) AllReadyH.nil
                  refine step_part rfl _ _ rfl Wx.heap.size _ _ _ rfl H29.out _ _ _ rfl (FX.out _ HBx.out).2.1 (by omega) HBx.out.size ?_
                  intro v9 w9 ho9 hg9
                  have hb9 := (Own.of H29.out).frame HBx.out (Nat.le_refl _) HBx.out.size hg9
                  have hne : some Wx.heap.size ≠ (Value.slice (some ⟨Wx.heap.size + 1, 0, none⟩) 0 0).ownBlock := by simp [Value.ownBlock]
                  replace K6 := Lib.hid (K6.out.grown hg9 hne)
                  replace HBx := Lib.hid hb9
                  have H33 := Lib.hid ho9
                  clear ho9 hg9 hb9
                  go_simp
                  obtain ⟨hx9, -, -⟩ := FX.out _ HBx.out
                  refine hK.out _ _ hx9 (fun hHeld => ?_)
                  clear hK K9 hx9
                  refine wpAnyH_ready (rs := [7]) (by kernel_rfl) (by simp) ?_
                  refine AllReadyH.cons (o := _) rfl (fun K9 hK => ?_) AllReadyH.nil
                  refine step_part rfl _ _ rfl Wx.heap.size _ _ _ rfl H33.out _ _ _ rfl (part_one K6.out) (by omega) HBx.out.size ?_
                  intro v9 w9 ho9 hg9
                  have hb9 := (Own.of H33.out).frame HBx.out (Nat.le_refl _) HBx.out.size hg9
                  replace HBx := Lib.hid hb9
                  have H36 := Lib.hid ho9
                  clear ho9 hg9 hb9
                  go_simp
                  obtain ⟨hx9, -, -⟩ := FX.out _ HBx.out
                  refine hK.out _ _ hx9 (fun hHeld => ?_)
                  clear hK K9 hx9
                  refine wpAnyH_ready (rs := [11]) (by kernel_rfl) (by simp) ?_
                  refine AllReadyH.cons (o := _) rfl (fun K9 hK => ?_) AllReadyH.nil
                  refine step_part rfl _ _ rfl Wx.heap.size _ _ _ rfl H36.out _ _ _ rfl (FX.out _ HBx.out).2.2 (by omega) HBx.out.size ?_
                  intro v9 w9 ho9 hg9
                  have hb9 := (Own.of H36.out).frame HBx.out (Nat.le_refl _) HBx.out.size hg9
                  replace HBx := Lib.hid hb9
                  have H40 := Lib.hid ho9
                  clear ho9 hg9 hb9
                  go_simp
                  obtain ⟨hx9, -, -⟩ := FX.out _ HBx.out
                  refine hK.out _ _ hx9 (fun hHeld => ?_)
                  clear hK K9 hx9
                  refine wpAnyH_ready (rs := [12]) (by kernel_rfl) (by simp) ?_
                  refine AllReadyH.cons (o := _) rfl (fun K9 hK => ?_) AllReadyH.nil
                  go_simp
                  obtain ⟨hx9, -, -⟩ := FX.out _ HBx.out
                  refine hK.out _ _ hx9 (fun hHeld => ?_)
                  clear hK K9 hx9
                  refine wpAnyH_done (by kernel_rfl) ?_ _
                  exact ⟨rfl, _, meet_at ⟨own_cast (own_base H40.out HSx.out) (by first | omega | (have := Hk0.out; omega)) (by rw [HN2.out, List.nil_append]), below_on HBw.out HBx.out⟩ (by kernel_rfl)⟩
          · have hd : decide ((0 : Int) < (j : Int)) = false := by simp; omega
            have HQ := Lib.hid (show posOf ys l f k = j from hpos.trans (by rw [show j = 0 by omega]; rfl))
            clear hpos hb
            go_wp2_with fail
            go_quiet (fail)
            obtain ⟨Wx, eX⟩ : ∃ Wx, wr.drewN nq = Wx := ⟨_, rfl⟩
            have HB2 := Lib.hid (show Below W0.heap.size W0 Wx from eX ▸ below_drewN HB.out nq)
            rw [eX]
            clear eX
            have FX := Lib.hid (show ∀ W, Below Wx.heap.size Wx W → (W.cell? ⟨wo.heap.size, 0, none⟩ = some (.int .i64 p) ∧ W.cell? ⟨wo.heap.size, 1, none⟩ = some (.int .i64 l) ∧ W.cell? ⟨wo.heap.size, 2, none⟩ = some (.int .i64 f) ∧ W.cell? ⟨wo.heap.size, 3, none⟩ = some (.int .i64 t)) ∧
                Part W 4 (.slice (some ⟨g, 0, none⟩) j cap) j (ys.take (j * 4)) ∧ Part W 4 (.slice (if cap = j then some ⟨g, 0, none⟩ else some ⟨g, j * 4, none⟩) (k - j) (cap - j)) (k - j) (ys.drop (j * 4)) from fun W hW => by
              have h0 := below_on HB2.out hW
              have h1 : ∀ q, q < k * 4 → W.cell? ⟨g, 0 + q, none⟩ = some (.int .i64 (ys.getD q 0)) := fun q hq => by rw [Nat.zero_add]; exact (h0.cell (p := ⟨g, q, none⟩) hgl2).trans (HC.out q hq)
              refine ⟨(K.out.on h0).c4, part_first Hyl.out hj h1, ?_⟩
              have h2 := part_last (c := cap - j) Hyl.out hj h1
              by_cases hcj : cap = j
              · rw [if_pos hcj]
                exact ⟨h2.1, .inr ⟨_, _, rfl, fun q hq => absurd hq (by omega)⟩⟩
              · rw [if_neg hcj]
                rw [Nat.zero_add] at h2
                exact h2)
            have i10 : (j : Int) ≤ (cap : Int) := by omega
            have i11 : ¬ cap < j := by omega
            have HBw := Lib.hid (below_on HB0.out HB2.out)
            have HSx := Lib.hid (show w.heap.size ≤ Wx.heap.size from HBw.out.size)
            have HN2 := Lib.hid (HN.out j HQ.out)
            go_upto_region 8 with (fail)
            refine Code.wp_mono (Q := fun e a' wk => e = .normal ∧ ∃ (u : Value) (f : Nat → Value), (wk.ownsRow w.heap.size 52 4 u (k + 1) (ints (csTo xs (k + 1))) ∧ Below w.heap.size w wk) ∧ a' = ⟨#[.slice (some ⟨b, off, none⟩) n c, undef, .slice none 0 0, .bool false, u, undef, f 6, f 7, .slice (some ⟨b, off, none⟩) n c, .int .i64 (n : Int), .int .i64 (k : Int), f 11, f 12, f 13, f 14, f 15, f 16, f 17, f 18, f 19, f 20, f 21, f 22, f 23, f 24, f 25, f 26, f 27, f 28, f 29, f 30, f 31, f 32, f 33, f 34, f 35, f 36, f 37, f 38, f 39, f 40, f 41, undef, undef, undef, undef], []⟩) ?rest ?first
            case rest =>
              rintro _ _ wk ⟨rfl, u, f, ⟨hown, hb⟩, rfl⟩
              have HO9 := Lib.hid hown
              have HB9 := Lib.hid hb
              clear hown hb
              go_wp2_with fail
              go_roundw
              case rel =>
                first
                | exact ⟨k + 1, by omega, by go_num, HO9.out, HB9.out⟩
                | ((repeat apply Exists.intro); exact ⟨⟨k + 1, by omega, by go_num, HO9.out, HB9.out⟩, rfl⟩)
              case measure => simp [intOf]; omega
            case first =>
              refine wp_region_held_drew (S := fun W => W.cell? ⟨wo.heap.size, 0, none⟩ = some (.int .i64 p) ∧ W.cell? ⟨wo.heap.size, 1, none⟩ = some (.int .i64 l) ∧ W.cell? ⟨wo.heap.size, 2, none⟩ = some (.int .i64 f) ∧ W.cell? ⟨wo.heap.size, 3, none⟩ = some (.int .i64 t)) (by kernel_rfl) (FX.out _ (Below.refl _ _)).1 (fun hHeld => ?_)
              have HBx := Lib.hid ((Below.refl Wx.heap.size Wx).drew)
              refine take_at (i := 1) (oi := _) 30 (v := .slice (some ⟨g, 0, none⟩) k cap) rfl rfl (by kernel_rfl) (by kernel_rfl) (by kernel_rfl) (fun _ _ _ h => (by cases h.1)) (Or.inl ⟨by rfl, ?_⟩) hHeld ?_
              · (intro w hSw; (try dsimp only at hSw); go_split_ands; go_simp)
              simp only [List.setIfInBounds_toArray, List.set_cons_zero, List.set_cons_succ]
              refine take_at (i := 2) (oi := _) 31 (v := .int .i64 ((j : Nat) : Int)) rfl rfl (by kernel_rfl) (by kernel_rfl) (by kernel_rfl) (fun _ _ _ h => (by cases h.1)) (Or.inl ⟨by rfl, ?_⟩) hHeld ?_
              · (intro w hSw; (try dsimp only at hSw); go_split_ands; go_simp)
              simp only [List.setIfInBounds_toArray, List.set_cons_zero, List.set_cons_succ]
              refine take_at (i := 3) (oi := _) 32 (v := .slice (some ⟨g, 0, none⟩) j cap) rfl rfl (by kernel_rfl) (by kernel_rfl) (by kernel_rfl) (fun _ _ _ h => (by cases h.1)) (Or.inl ⟨by rfl, ?_⟩) hHeld ?_
              · (intro w hSw; (try dsimp only at hSw); go_split_ands; go_simp)
              simp only [List.setIfInBounds_toArray, List.set_cons_zero, List.set_cons_succ]
              refine take_at (i := 5) (oi := _) 34 (v := (Value.agg #[Value.int .i64 p, Value.int .i64 l, Value.int .i64 f, Value.int .i64 t])) rfl rfl (by kernel_rfl) (by kernel_rfl) (by kernel_rfl) (fun _ _ _ h => (by cases h.1)) (Or.inl ⟨by rfl, ?_⟩) hHeld ?_
              · (intro w hSw; (try dsimp only at hSw); go_split_ands; go_simp)
              simp only [List.setIfInBounds_toArray, List.set_cons_zero, List.set_cons_succ]
              refine take_at (i := 8) (oi := _) 37 (v := .slice (some ⟨g, 0, none⟩) k cap) rfl rfl (by kernel_rfl) (by kernel_rfl) (by kernel_rfl) (fun _ _ _ h => (by cases h.1)) (Or.inl ⟨by rfl, ?_⟩) hHeld ?_
              · (intro w hSw; (try dsimp only at hSw); go_split_ands; go_simp)
              simp only [List.setIfInBounds_toArray, List.set_cons_zero, List.set_cons_succ]
              refine take_at (i := 9) (oi := _) 38 (v := .int .i64 ((j : Nat) : Int)) rfl rfl (by kernel_rfl) (by kernel_rfl) (by kernel_rfl) (fun _ _ _ h => (by cases h.1)) (Or.inl ⟨by rfl, ?_⟩) hHeld ?_
              · (intro w hSw; (try dsimp only at hSw); go_split_ands; go_simp)
              simp only [List.setIfInBounds_toArray, List.set_cons_zero, List.set_cons_succ]
              refine take_at (i := 10) (oi := _) 39 (v := .slice (if cap = j then some ⟨g, 0, none⟩ else some ⟨g, j * 4, none⟩) (k - j) (cap - j)) rfl rfl (by kernel_rfl) (by kernel_rfl) (by kernel_rfl) (fun _ _ _ h => (by cases h.1)) (Or.inl ⟨by rfl, ?_⟩) hHeld ?_
              · (intro w hSw; (try dsimp only at hSw); go_split_ands; go_simp)
              simp only [List.setIfInBounds_toArray, List.set_cons_zero, List.set_cons_succ]
              refine wpAnyH_ready (rs := [0, 6]) (by kernel_rfl) (by simp) ?_
              refine AllReadyH.cons (o := _) rfl (fun K9 hK => ?_) (AllReadyH.cons (o := _) rfl (fun K9 hK => ?_) AllReadyH.nil)
              · go_simp
                have H29 := Lib.hid (show World.ownsRow _ Wx.heap.size 52 4 _ 0 (ints []) from own_base (own_empty (Wx.drew) 52 4) (base' := Wx.heap.size) HBx.out.size)
                replace HBx := Lib.hid (below_new HBx.out (.cells #[] 52))
                obtain ⟨hx9, -, -⟩ := FX.out _ HBx.out
                refine hK.out _ _ hx9 (fun hHeld => ?_)
                clear hK K9 hx9
                refine wpAnyH_ready (rs := [4, 6]) (by kernel_rfl) (by simp) ?_
                refine AllReadyH.cons (o := _) rfl (fun K9 hK => ?_) (AllReadyH.cons (o := _) rfl (fun K9 hK => ?_) AllReadyH.nil)
                · refine step_part rfl _ _ rfl Wx.heap.size _ _ _ rfl H29.out _ _ _ rfl (FX.out _ HBx.out).2.1 (by omega) HBx.out.size ?_
                  intro v9 w9 ho9 hg9
                  have hb9 := (Own.of H29.out).frame HBx.out (Nat.le_refl _) HBx.out.size hg9
                  replace HBx := Lib.hid hb9
                  have H33 := Lib.hid ho9
                  clear ho9 hg9 hb9
                  go_simp
                  obtain ⟨hx9, -, -⟩ := FX.out _ HBx.out
                  refine hK.out _ _ hx9 (fun hHeld => ?_)
                  clear hK K9 hx9
                  refine wpAnyH_ready (rs := [6]) (by kernel_rfl) (by simp) ?_
                  refine AllReadyH.cons (o := _) rfl (fun K9 hK => ?_) AllReadyH.nil
                  go_simp
                  replace H33 := Lib.hid (own_below H33.out (below_new (Below.refl _ _) (.cells #[.int .i64 p, .int .i64 l, .int .i64 f, .int .i64 t] 52)) (Nat.le_refl _))
                  have K6 := Lib.hid (Blk.new (w9) 52 #[.int .i64 p, .int .i64 l, .int .i64 f, .int .i64 t])
                  replace HBx := Lib.hid (below_new HBx.out (.cells #[.int .i64 p, .int .i64 l, .int .i64 f, .int .i64 t] 52))
                  obtain ⟨hx9, -, -⟩ := FX.out _ HBx.out
                  refine hK.out _ _ hx9 (fun hHeld => ?_)
                  clear hK K9 hx9
                  refine wpAnyH_ready (rs := [7]) (by kernel_rfl) (by simp) ?_
                  refine AllReadyH.cons (o := _) rfl (fun K9 hK => ?_) AllReadyH.nil
                  refine step_part rfl _ _ rfl Wx.heap.size _ _ _ rfl H33.out _ _ _ rfl (part_one K6.out) (by omega) HBx.out.size ?_
                  intro v9 w9 ho9 hg9
                  have hb9 := (Own.of H33.out).frame HBx.out (Nat.le_refl _) HBx.out.size hg9
                  replace HBx := Lib.hid hb9
                  have H36 := Lib.hid ho9
                  clear ho9 hg9 hb9
                  go_simp
                  obtain ⟨hx9, -, -⟩ := FX.out _ HBx.out
                  refine hK.out _ _ hx9 (fun hHeld => ?_)
                  clear hK K9 hx9
                  refine wpAnyH_ready (rs := [11]) (by kernel_rfl) (by simp) ?_
                  refine AllReadyH.cons (o := _) rfl (fun K9 hK => ?_) AllReadyH.nil
                  refine step_part rfl _ _ rfl Wx.heap.size _ _ _ rfl H36.out _ _ _ rfl (FX.out _ HBx.out).2.2 (by omega) HBx.out.size ?_
                  intro v9 w9 ho9 hg9
                  have hb9 := (Own.of H36.out).frame HBx.out (Nat.le_refl _) HBx.out.size hg9
                  replace HBx := Lib.hid hb9
                  have H40 := Lib.hid ho9
                  clear ho9 hg9 hb9
                  go_simp
                  obtain ⟨hx9, -, -⟩ := FX.out _ HBx.out
                  refine hK.out _ _ hx9 (fun hHeld => ?_)
                  clear hK K9 hx9
                  refine wpAnyH_ready (rs := [12]) (by kernel_rfl) (by simp) ?_
                  refine AllReadyH.cons (o := _) rfl (fun K9 hK => ?_) AllReadyH.nil
                  go_simp
                  obtain ⟨hx9, -, -⟩ := FX.out _ HBx.out
                  refine hK.out _ _ hx9 (fun hHeld => ?_)
                  clear hK K9 hx9
                  refine wpAnyH_done (by kernel_rfl) ?_ _
                  exact ⟨rfl, _, meet_at ⟨own_cast (own_base H40.out HSx.out) (by first | omega | (have := Hk0.out; omega)) (by rw [HN2.out, List.nil_append]), below_on HBw.out HBx.out⟩ (by kernel_rfl)⟩
                · go_simp
                  replace H29 := Lib.hid (own_below H29.out (below_new (Below.refl _ _) (.cells #[.int .i64 p, .int .i64 l, .int .i64 f, .int .i64 t] 52)) (Nat.le_refl _))
                  have K6 := Lib.hid (Blk.new (Wx.drew.alloc (.cells #[] 52)) 52 #[.int .i64 p, .int .i64 l, .int .i64 f, .int .i64 t])
                  replace HBx := Lib.hid (below_new HBx.out (.cells #[.int .i64 p, .int .i64 l, .int .i64 f, .int .i64 t] 52))
                  have hz : (Wx.drew.alloc (.cells #[] 52)).heap.size = Wx.heap.size + 1 := by simp
                  replace K6 := Lib.hid (hz ▸ K6.out)
                  clear hz
                  obtain ⟨hx9, -, -⟩ := FX.out _ HBx.out
                  refine hK.out _ _ hx9 (fun hHeld => ?_)
                  clear hK K9 hx9
                  refine wpAnyH_ready (rs := [4]) (by kernel_rfl) (by simp) ?_
                  refine AllReadyH.cons (o := _) rfl (fun K9 hK => ?_) AllReadyH.nil
                  refine step_part rfl _ _ rfl Wx.heap.size _ _ _ rfl H29.out _ _ _ rfl (FX.out _ HBx.out).2.1 (by omega) HBx.out.size ?_
                  intro v9 w9 ho9 hg9
                  have hb9 := (Own.of H29.out).frame HBx.out (Nat.le_refl _) HBx.out.size hg9
                  have hne : some (Wx.heap.size + 1) ≠ (Value.slice (some ⟨Wx.heap.size, 0, none⟩) 0 0).ownBlock := by simp [Value.ownBlock]
                  replace K6 := Lib.hid (K6.out.grown hg9 hne)
                  replace HBx := Lib.hid hb9
                  have H33 := Lib.hid ho9
                  clear ho9 hg9 hb9
                  go_simp
                  obtain ⟨hx9, -, -⟩ := FX.out _ HBx.out
                  refine hK.out _ _ hx9 (fun hHeld => ?_)
                  clear hK K9 hx9
                  refine wpAnyH_ready (rs := [7]) (by kernel_rfl) (by simp) ?_
                  refine AllReadyH.cons (o := _) rfl (fun K9 hK => ?_) AllReadyH.nil
                  refine step_part rfl _ _ rfl Wx.heap.size _ _ _ rfl H33.out _ _ _ rfl (part_one K6.out) (by omega) HBx.out.size ?_
                  intro v9 w9 ho9 hg9
                  have hb9 := (Own.of H33.out).frame HBx.out (Nat.le_refl _) HBx.out.size hg9
                  replace HBx := Lib.hid hb9
                  have H36 := Lib.hid ho9
                  clear ho9 hg9 hb9
                  go_simp
                  obtain ⟨hx9, -, -⟩ := FX.out _ HBx.out
                  refine hK.out _ _ hx9 (fun hHeld => ?_)
                  clear hK K9 hx9
                  refine wpAnyH_ready (rs := [11]) (by kernel_rfl) (by simp) ?_
                  refine AllReadyH.cons (o := _) rfl (fun K9 hK => ?_) AllReadyH.nil
                  refine step_part rfl _ _ rfl Wx.heap.size _ _ _ rfl H36.out _ _ _ rfl (FX.out _ HBx.out).2.2 (by omega) HBx.out.size ?_
                  intro v9 w9 ho9 hg9
                  have hb9 := (Own.of H36.out).frame HBx.out (Nat.le_refl _) HBx.out.size hg9
                  replace HBx := Lib.hid hb9
                  have H40 := Lib.hid ho9
                  clear ho9 hg9 hb9
                  go_simp
                  obtain ⟨hx9, -, -⟩ := FX.out _ HBx.out
                  refine hK.out _ _ hx9 (fun hHeld => ?_)
                  clear hK K9 hx9
                  refine wpAnyH_ready (rs := [12]) (by kernel_rfl) (by simp) ?_
                  refine AllReadyH.cons (o := _) rfl (fun K9 hK => ?_) AllReadyH.nil
                  go_simp
                  obtain ⟨hx9, -, -⟩ := FX.out _ HBx.out
                  refine hK.out _ _ hx9 (fun hHeld => ?_)
                  clear hK K9 hx9
                  refine wpAnyH_done (by kernel_rfl) ?_ _
                  exact ⟨rfl, _, meet_at ⟨own_cast (own_base H40.out HSx.out) (by first | omega | (have := Hk0.out; omega)) (by rw [HN2.out, List.nil_append]), below_on HBw.out HBx.out⟩ (by kernel_rfl)⟩
              · go_simp
                have K6 := Lib.hid (Blk.new (Wx.drew) 52 #[.int .i64 p, .int .i64 l, .int .i64 f, .int .i64 t])
                replace HBx := Lib.hid (below_new HBx.out (.cells #[.int .i64 p, .int .i64 l, .int .i64 f, .int .i64 t] 52))
                obtain ⟨hx9, -, -⟩ := FX.out _ HBx.out
                refine hK.out _ _ hx9 (fun hHeld => ?_)
                clear hK K9 hx9
                refine wpAnyH_ready (rs := [0]) (by kernel_rfl) (by simp) ?_
                refine AllReadyH.cons (o := _) rfl (fun K9 hK => ?_) AllReadyH.nil
                go_simp
                have H29 := Lib.hid (show World.ownsRow _ Wx.heap.size 52 4 _ 0 (ints []) from own_base (own_empty (Wx.drew.alloc (.cells #[.int .i64 p, .int .i64 l, .int .i64 f, .int .i64 t] 52)) 52 4) (base' := Wx.heap.size) HBx.out.size)
                replace HBx := Lib.hid (below_new HBx.out (.cells #[] 52))
                replace K6 := Lib.hid (K6.out.alloc (.cells #[] 52))
                have hz : (Wx.drew.alloc (.cells #[.int .i64 p, .int .i64 l, .int .i64 f, .int .i64 t] 52)).heap.size = Wx.heap.size + 1 := by simp
                replace H29 := Lib.hid (show World.ownsRow _ Wx.heap.size 52 4 (.slice (some ⟨Wx.heap.size + 1, 0, none⟩) 0 0) 0 (ints []) from by have := H29.out; rw [hz] at this; exact this)
                clear hz
                obtain ⟨hx9, -, -⟩ := FX.out _ HBx.out
                refine hK.out _ _ hx9 (fun hHeld => ?_)
                clear hK K9 hx9
                refine wpAnyH_ready (rs := [4]) (by kernel_rfl) (by simp) ?_
                refine AllReadyH.cons (o := _) rfl (fun K9 hK => ?_) AllReadyH.nil
                refine step_part rfl _ _ rfl Wx.heap.size _ _ _ rfl H29.out _ _ _ rfl (FX.out _ HBx.out).2.1 (by omega) HBx.out.size ?_
                intro v9 w9 ho9 hg9
                have hb9 := (Own.of H29.out).frame HBx.out (Nat.le_refl _) HBx.out.size hg9
                have hne : some Wx.heap.size ≠ (Value.slice (some ⟨Wx.heap.size + 1, 0, none⟩) 0 0).ownBlock := by simp [Value.ownBlock]
                replace K6 := Lib.hid (K6.out.grown hg9 hne)
                replace HBx := Lib.hid hb9
                have H33 := Lib.hid ho9
                clear ho9 hg9 hb9
                go_simp
                obtain ⟨hx9, -, -⟩ := FX.out _ HBx.out
                refine hK.out _ _ hx9 (fun hHeld => ?_)
                clear hK K9 hx9
                refine wpAnyH_ready (rs := [7]) (by kernel_rfl) (by simp) ?_
                refine AllReadyH.cons (o := _) rfl (fun K9 hK => ?_) AllReadyH.nil
                refine step_part rfl _ _ rfl Wx.heap.size _ _ _ rfl H33.out _ _ _ rfl (part_one K6.out) (by omega) HBx.out.size ?_
                intro v9 w9 ho9 hg9
                have hb9 := (Own.of H33.out).frame HBx.out (Nat.le_refl _) HBx.out.size hg9
                replace HBx := Lib.hid hb9
                have H36 := Lib.hid ho9
                clear ho9 hg9 hb9
                go_simp
                obtain ⟨hx9, -, -⟩ := FX.out _ HBx.out
                refine hK.out _ _ hx9 (fun hHeld => ?_)
                clear hK K9 hx9
                refine wpAnyH_ready (rs := [11]) (by kernel_rfl) (by simp) ?_
                refine AllReadyH.cons (o := _) rfl (fun K9 hK => ?_) AllReadyH.nil
                refine step_part rfl _ _ rfl Wx.heap.size _ _ _ rfl H36.out _ _ _ rfl (FX.out _ HBx.out).2.2 (by omega) HBx.out.size ?_
                intro v9 w9 ho9 hg9
                have hb9 := (Own.of H36.out).frame HBx.out (Nat.le_refl _) HBx.out.size hg9
                replace HBx := Lib.hid hb9
                have H40 := Lib.hid ho9
                clear ho9 hg9 hb9
                go_simp
                obtain ⟨hx9, -, -⟩ := FX.out _ HBx.out
                refine hK.out _ _ hx9 (fun hHeld => ?_)
                clear hK K9 hx9
                refine wpAnyH_ready (rs := [12]) (by kernel_rfl) (by simp) ?_
                refine AllReadyH.cons (o := _) rfl (fun K9 hK => ?_) AllReadyH.nil
                go_simp
                obtain ⟨hx9, -, -⟩ := FX.out _ HBx.out
                refine hK.out _ _ hx9 (fun hHeld => ?_)
                clear hK K9 hx9
                refine wpAnyH_done (by kernel_rfl) ?_ _
                exact ⟨rfl, _, meet_at ⟨own_cast (own_base H40.out HSx.out) (by first | omega | (have := Hk0.out; omega)) (by rw [HN2.out, List.nil_append]), below_on HBw.out HBx.out⟩ (by kernel_rfl)⟩
    · obtain rfl : k = n := by omega
      have HO := Lib.hid (Own.of hown)
      have HB := Lib.hid hb
      have ey' := Lib.hid ey
      clear hown hb ey hyl
      cases hq : gcB k (csTo xs k) with
      | false =>
        have HF := Lib.hid (cs_no hq)
        rw [ey'.out] at hq
        go_wp2_with fail
        refine (caGood_any _ k wo.heap.size ys _ HO.out.cap HO.out.rd (Nat.le_refl _) (by omega)).mono ?_
        rintro e w1 ⟨rfl, hb1⟩
        rw [hq]
        go_wp2_with fail
        go_ret2
        exact ⟨_, by rw [HF.out.1]; rfl, by rw [HF.out.2.1, HF.out.2.2]; exact World.ownsRow_nil _ _ _ _, below_on HB.out hb1⟩
      | true =>
        have HF := Lib.hid (cs_yes hq)
        have hq' := hq
        rw [ey'.out] at hq'
        go_wp2_with fail
        refine (caGood_any _ k wo.heap.size ys _ HO.out.cap HO.out.rd (Nat.le_refl _) (by omega)).mono ?_
        rintro e w1 ⟨rfl, hb1⟩
        rw [hq']
        go_wp2_with fail
        go_ret2
        exact ⟨_, by rw [HF.out.1]; rfl, by rw [HF.out.2.1, HF.out.2.2, ey'.out]; exact own_below HO.out.1 hb1 (Nat.le_refl _), below_on HB.out hb1⟩
end Go.Proofs.Ytamehlafmfmgmaa
