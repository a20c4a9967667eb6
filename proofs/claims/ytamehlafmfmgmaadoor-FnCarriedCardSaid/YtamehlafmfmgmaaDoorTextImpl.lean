/- Contract of the program's CarriesText. Conditions: the slice can be read, its length is at most its capacity, and the library's table of powers of ten is laid. -/
import Derived.Test.YtamehlafmfmgmaaDoorTextFn
import Derived.Test.YtamehlafmfmgmaaDoorAreImpl
import Derived.Test.YtamehlafmfmgmaaDoorBuilder
import Derived.Test.YtamehlafmfmgmaaDoorShelfC
import Derived.Test.YtamehlafmfmgmaaDoorTake
namespace Go.Proofs.YtamehlafmfmgmaaDoor
open Go.RowKit

/-- The table of powers of ten is laid. -/
def Pow (w : World) : Prop := Lib.TabIs Tryd.prog w "internal/strconv.uint64pow10" .u64 Lib.pow10Tab
theorem var_below {P : Program} {B g : Nat} {W W' : World} {n : String} {cs : Array Value} (h : Below B W W') (hg : P.globalNamed n = some g) (hgB : g < B) (hv : W.var? P n = some cs) : W'.var? P n = some cs := by
  unfold World.var? at hv ⊢
  rw [hg] at hv ⊢
  simp only [Option.bind_some] at hv ⊢
  rw [h.block g hgB]
  exact hv
theorem gPow : Tryd.prog.globalNamed "internal/strconv.uint64pow10" = some 0 := by kernel_rfl
theorem Pow.keep {w w' : World} (h : Pow w) (hb : Below w.heap.size w w') : Pow w' := by
  have hgl : 0 < w.heap.size := by
    have h2 := h
    unfold Pow Lib.TabIs World.var? at h2
    simp only [gPow, Option.bind_some] at h2
    split at h2
    · rename_i h; exact (Array.getElem?_eq_some_iff.1 h).1
    · cases h2
  exact var_below hb gPow hgl h
theorem below_growN (w : World) (k : Nat) (os : Array Obj) : Below w.heap.size w (Sort.grow (w.drewN k) os) :=
  ⟨rfl, rfl, rfl, by simp [Sort.grow, World.drewN], fun i hi => by show (w.heap ++ os)[i]? = _; rw [Array.getElem?_append_left hi]⟩
theorem itoa_any (n : Int) (w : World) (h0 : 0 ≤ n) (h1 : n < 100000) (ht : Pow w) : Calls Tryd.prog 30 #[.int .i64 n] w fun e w' => e = .returned (.string (txt (numT n))) ∧ Below w.heap.size w w' := by
  refine (Tryd.strconv_Itoa n (by omega) (by omega) w ht).mono ?_
  rintro e w' ⟨rfl, k, os, rfl⟩
  refine ⟨?_, below_growN w k os⟩
  rw [numT_itoa h0 h1]; rfl
theorem isB_on {B b : Nat} {bs : List Value} {w w' : World} (h : IsB B b bs w) (hb : Below w.heap.size w w') : IsB B b bs w' := by
  have one : ∀ p, Lib.BuilderAt 57 5 B b p bs w → Lib.BuilderAt 57 5 B b p bs w' := by
    rintro p ⟨hB, v, hbk, hown, hne⟩
    have hlt : b < w.heap.size := (Array.getElem?_eq_some_iff.1 hbk).1
    exact ⟨hB, v, (hb.block b hlt).trans hbk, own_below hown hb (Nat.le_refl _), hne⟩
  rcases h with h | h
  · exact .inl (one _ h)
  · exact .inr (one _ h)
set_option maxRecDepth 100000 in
set_option maxHeartbeats 4000000 in
theorem CarriesText_any (v : Value) (n B : Nat) (xs : List Int) (w : World) (hp : Pow w) (hcp : Cap v) (hv : Rd w B 4 v n xs) (hB : B ≤ w.heap.size) (hn : n ≤ 1099511627776) :
    Calls Tryd.prog 8 #[v] w fun e w' => e = .returned (.tuple #[.string (txt (ctL n xs)), .bool (gcB n xs)]) ∧ Below w.heap.size w w' := by
  obtain ⟨A, c, rfl⟩ := hv.form4
  have Hv := Lib.hid hv
  have Hc := Lib.hid hcp
  have HP := Lib.hid hp
  clear hv hcp hp
  cases h1 : gcB n xs with
  | false =>
    have hf := Lib.hid (show txt (ctL n xs) = ⟨#[]⟩ by rw [ctL, if_neg (by rw [h1]; simp)]; rfl)
    go_enter Tryd.func8, Tryd.ntmps8
    go_wp2_with fail
    refine (AreCarries_any _ n B xs _ Hc.out Hv.out hB hn).mono ?_
    rintro e w1 ⟨rfl, hb1⟩
    rw [h1]
    go_wp2_with fail
    go_ret2
    exact ⟨by rw [hf.out]; rfl, hb1⟩
  | true =>
    have hf := Lib.hid (show txt (ctL n xs) = txt (ctTo xs n) by rw [ctL, if_pos h1])
    have HG := Lib.hid (gc_yes h1)
    have h40 := (gc_yes h1).len
    go_enter Tryd.func8, Tryd.ntmps8
    go_wp2_with fail
    refine (AreCarries_any _ n B xs _ Hc.out Hv.out hB hn).mono ?_
    rintro e w1 ⟨rfl, hb1⟩
    rw [h1]
    obtain ⟨g, eg⟩ : ∃ g, w1.heap.size = g := ⟨_, rfl⟩
    have HF := Lib.hid (show IsB g g (Lib.byteCells (ctTo xs 0)) (w1.alloc (.cells #[.pointer none, .slice none 0 0] 57)) from eg ▸ Lib.fresh_isBuilder 57 5 w1)
    have HB0 := Lib.hid (below_new hb1 (.cells #[.pointer none, .slice none 0 0] 57))
    have hwg := Lib.hid (show w.heap.size ≤ g from eg ▸ hb1.size)
    have hgs0 := Lib.hid (show g < (w1.alloc (.cells #[.pointer none, .slice none 0 0] 57)).heap.size by simp; omega)
    go_wp2_with fail
    clear eg hb1
    go_loopw [12] (fun i wr => ∃ k : Nat, k ≤ n ∧ i = .int .i64 k ∧ IsB g g (Lib.byteCells (ctTo xs k)) wr ∧ g < wr.heap.size ∧ Below w.heap.size w wr) (fun i _ => n - (intOf i).toNat)
    case atStart => exact ⟨0, Nat.zero_le _, rfl, HF.out, hgs0.out, HB0.out⟩
    case round =>
      clear HF HB0 hgs0
      obtain ⟨k, hk, rfl, hib, hgs, hb⟩ := hrel
      obtain ⟨wo, rfl⟩ : ∃ wo : World, wo = wr := ⟨_, rfl⟩
      by_cases hlt : k < n
      · obtain ⟨b, off, rfl, hbB, hc⟩ := Hv.out.carry (by omega)
        have hcip := hc k (by omega)
        obtain ⟨p, ep⟩ : ∃ a, cP xs k = a := ⟨_, rfl⟩
        obtain ⟨l, el⟩ : ∃ a, cL xs k = a := ⟨_, rfl⟩
        obtain ⟨f, ef⟩ : ∃ a, cF xs k = a := ⟨_, rfl⟩
        obtain ⟨t, et⟩ : ∃ a, cT xs k = a := ⟨_, rfl⟩
        rw [ep, el, ef, et] at hcip
        have c0 := (hb.cell (p := ⟨b, off + k * 4, none⟩) (Nat.lt_of_lt_of_le hbB hB)).trans hcip.1
        have c1 := (hb.cell (p := ⟨b, off + k * 4 + 1, none⟩) (Nat.lt_of_lt_of_le hbB hB)).trans hcip.2.1
        have c2 := (hb.cell (p := ⟨b, off + k * 4 + 2, none⟩) (Nat.lt_of_lt_of_le hbB hB)).trans hcip.2.2.1
        have c3 := (hb.cell (p := ⟨b, off + k * 4 + 3, none⟩) (Nat.lt_of_lt_of_le hbB hB)).trans hcip.2.2.2
        have i0 : (0 : Int) ≤ (k : Int) := by omega
        have i1 : (k : Int) < (n : Int) := by omega
        have K := Lib.hid (Blk.new wo 50 #[.int .i64 p, .int .i64 l, .int .i64 f, .int .i64 t]).drew
        have HI := Lib.hid (isB_on hib (below_new (Below.refl wo.heap.size wo) (.cells #[.int .i64 p, .int .i64 l, .int .i64 f, .int .i64 t] 50)).drew)
        have HB := Lib.hid (below_new hb (.cells #[.int .i64 p, .int .i64 l, .int .i64 f, .int .i64 t] 50)).drew
        have HNE := Lib.hid (show wo.heap.size ≠ g by omega)
        replace hgs := Lib.hid (show g ≤ (wo.alloc (.cells #[.int .i64 p, .int .i64 l, .int .i64 f, .int .i64 t] 50)).drew.heap.size by simp; omega)
        have hval := caB_yes (HG.out.each k hlt)
        rw [ep, el, ef, et] at hval
        obtain ⟨v1, v2, v3, v4, v5⟩ := hval
        have HE := Lib.hid (show ctTo xs (k + 1) = ctTo xs k ++ lineT p l f t by rw [ctTo, ep, el, ef, et])
        have HL := Lib.hid (line_txt p l f t)
        have hln := lineT_len p l f t
        have hcl := ctTo_len xs k
        have z1 := numT_len p
        have z2 := numT_len l
        have z3 := numT_len f
        have z4 := numT_len t
        rw [← txt_size] at z1 z2 z3 z4
        have P1 := Lib.hid (fun W h => itoa_any p W (by omega) (by omega) h)
        have P2 := Lib.hid (fun W h => itoa_any l W (by omega) (by omega) h)
        have P3 := Lib.hid (fun W h => itoa_any f W (by omega) (by omega) h)
        have P4 := Lib.hid (fun W h => itoa_any t W (by omega) (by omega) h)
        obtain ⟨ta, ea⟩ : ∃ q, txt (numT p) = q := ⟨_, rfl⟩
        obtain ⟨tb, eb⟩ : ∃ q, txt (numT l) = q := ⟨_, rfl⟩
        obtain ⟨tc, ec⟩ : ∃ q, txt (numT f) = q := ⟨_, rfl⟩
        obtain ⟨td, ed⟩ : ∃ q, txt (numT t) = q := ⟨_, rfl⟩
        rw [ea] at P1 HL z1
        rw [eb] at P2 HL z2
        rw [ec] at P3 HL z3
        rw [ed] at P4 HL z4
        have n1 : ¬ 9223372036854775807 < ta.size + 1 := by omega
        have n2 : ¬ 9223372036854775807 < ta.size + 1 + tb.size := by omega
        have n3 : ¬ 9223372036854775807 < ta.size + 1 + tb.size + 1 := by omega
        have n4 : ¬ 9223372036854775807 < ta.size + 1 + tb.size + 1 + tc.size := by omega
        have n5 : ¬ 9223372036854775807 < ta.size + 1 + tb.size + 1 + tc.size + 1 := by omega
        have n6 : ¬ 9223372036854775807 < ta.size + 1 + tb.size + 1 + tc.size + 1 + td.size := by omega
        have n7 : ¬ 9223372036854775807 < ta.size + 1 + tb.size + 1 + tc.size + 1 + td.size + 1 := by omega
        have HW := Lib.hid (fun W (h1 : IsB g g (Lib.byteCells (ctTo xs k)) W) (h2 : g ≤ W.heap.size) => writeString_any g g (Lib.byteCells (ctTo xs k)) (txt (lineT p l f t)) W h1 (by rw [Lib.byteCells_length, txt_size]; omega) h2)
        clear hc hcip ep el ef et ea eb ec ed hb hib v1 v2 v3 v4 v5 z1 z2 z3 z4 hln hcl
        obtain ⟨a0, a1, a2, a3⟩ := K.out.c4
        go_wp2_with fail
        refine wp_region_held_drew (S := fun W => W.cell? ⟨wo.heap.size, 0, none⟩ = some (.int .i64 p) ∧ W.cell? ⟨wo.heap.size, 1, none⟩ = some (.int .i64 l) ∧ W.cell? ⟨wo.heap.size, 2, none⟩ = some (.int .i64 f) ∧ W.cell? ⟨wo.heap.size, 3, none⟩ = some (.int .i64 t)) (by kernel_rfl) ⟨a0, a1, a2, a3⟩ (fun hHeld => ?_)
        clear a0 a1 a2 a3
        refine take_at (i := 0) (oi := _) 16 (v := .pointer (some ⟨wo.heap.size, 0, none⟩)) rfl rfl (by kernel_rfl) (by kernel_rfl) (by kernel_rfl) (fun _ _ _ h => h) (Or.inl ⟨by rfl, ?_⟩) hHeld ?_
        · (intro w hSw; (try dsimp only at hSw); go_split_ands; go_simp)
        simp only [List.setIfInBounds_toArray, List.set_cons_zero, List.set_cons_succ]
        refine take_at (i := 1) (oi := _) 17 (v := .int .i64 p) rfl rfl (by kernel_rfl) (by kernel_rfl) (by kernel_rfl) (fun _ _ _ h => h) (Or.inl ⟨by rfl, ?_⟩) hHeld ?_
        · (intro w hSw; (try dsimp only at hSw); go_split_ands; go_simp)
        simp only [List.setIfInBounds_toArray, List.set_cons_zero, List.set_cons_succ]
        refine take_at (i := 4) (oi := _) 20 (v := .pointer (some ⟨wo.heap.size, 1, none⟩)) rfl rfl (by kernel_rfl) (by kernel_rfl) (by kernel_rfl) (fun _ _ _ h => h) (Or.inl ⟨by rfl, ?_⟩) hHeld ?_
        · (intro w hSw; (try dsimp only at hSw); go_split_ands; go_simp)
        simp only [List.setIfInBounds_toArray, List.set_cons_zero, List.set_cons_succ]
        refine take_at (i := 5) (oi := _) 21 (v := .int .i64 l) rfl rfl (by kernel_rfl) (by kernel_rfl) (by kernel_rfl) (fun _ _ _ h => h) (Or.inl ⟨by rfl, ?_⟩) hHeld ?_
        · (intro w hSw; (try dsimp only at hSw); go_split_ands; go_simp)
        simp only [List.setIfInBounds_toArray, List.set_cons_zero, List.set_cons_succ]
        refine take_at (i := 9) (oi := _) 25 (v := .pointer (some ⟨wo.heap.size, 2, none⟩)) rfl rfl (by kernel_rfl) (by kernel_rfl) (by kernel_rfl) (fun _ _ _ h => h) (Or.inl ⟨by rfl, ?_⟩) hHeld ?_
        · (intro w hSw; (try dsimp only at hSw); go_split_ands; go_simp)
        simp only [List.setIfInBounds_toArray, List.set_cons_zero, List.set_cons_succ]
        refine take_at (i := 10) (oi := _) 26 (v := .int .i64 f) rfl rfl (by kernel_rfl) (by kernel_rfl) (by kernel_rfl) (fun _ _ _ h => h) (Or.inl ⟨by rfl, ?_⟩) hHeld ?_
        · (intro w hSw; (try dsimp only at hSw); go_split_ands; go_simp)
        simp only [List.setIfInBounds_toArray, List.set_cons_zero, List.set_cons_succ]
        refine take_at (i := 14) (oi := _) 30 (v := .pointer (some ⟨wo.heap.size, 3, none⟩)) rfl rfl (by kernel_rfl) (by kernel_rfl) (by kernel_rfl) (fun _ _ _ h => h) (Or.inl ⟨by rfl, ?_⟩) hHeld ?_
        · (intro w hSw; (try dsimp only at hSw); go_split_ands; go_simp)
        simp only [List.setIfInBounds_toArray, List.set_cons_zero, List.set_cons_succ]
        refine take_at (i := 15) (oi := _) 31 (v := .int .i64 t) rfl rfl (by kernel_rfl) (by kernel_rfl) (by kernel_rfl) (fun _ _ _ h => h) (Or.inl ⟨by rfl, ?_⟩) hHeld ?_
        · (intro w hSw; (try dsimp only at hSw); go_split_ands; go_simp)
        simp only [List.setIfInBounds_toArray, List.set_cons_zero, List.set_cons_succ]
        refine wpAnyH_ready (rs := [2]) (by kernel_rfl) (by simp) ?_
        refine AllReadyH.cons (o := _) rfl (fun K9 hK => ?_) AllReadyH.nil
        go_simp
        refine (P1.out _ (HP.out.keep HB.out)).mono ?_
        rintro e w2 ⟨rfl, hb2⟩
        refine hK.out _ _ ⟨cell_on hb2 hHeld.1, cell_on hb2 hHeld.2.1, cell_on hb2 hHeld.2.2.1, cell_on hb2 hHeld.2.2.2⟩ (fun hHeld => ?_)
        replace HB := Lib.hid (below_on HB.out hb2)
        replace K := Lib.hid (K.out.on hb2)
        replace HI := Lib.hid (isB_on HI.out hb2)
        replace hgs := Lib.hid (Nat.le_trans hgs.out hb2.size)
        clear hK K9 hb2
        refine take_at (i := 3) (oi := _) 19 (v := .string (ta ++ ⟨#[32]⟩)) rfl rfl (by kernel_rfl) (by kernel_rfl) (by kernel_rfl) (fun _ _ _ h => h) (Or.inl ⟨by rfl, ?_⟩) hHeld ?_
        · (intro w hSw; (try dsimp only at hSw); go_split_ands; go_simp)
        simp only [List.setIfInBounds_toArray, List.set_cons_zero, List.set_cons_succ]
        refine wpAnyH_ready (rs := [6]) (by kernel_rfl) (by simp) ?_
        refine AllReadyH.cons (o := _) rfl (fun K9 hK => ?_) AllReadyH.nil
        go_simp
        refine (P2.out _ (HP.out.keep HB.out)).mono ?_
        rintro e w2 ⟨rfl, hb2⟩
        refine hK.out _ _ ⟨cell_on hb2 hHeld.1, cell_on hb2 hHeld.2.1, cell_on hb2 hHeld.2.2.1, cell_on hb2 hHeld.2.2.2⟩ (fun hHeld => ?_)
        replace HB := Lib.hid (below_on HB.out hb2)
        replace K := Lib.hid (K.out.on hb2)
        replace HI := Lib.hid (isB_on HI.out hb2)
        replace hgs := Lib.hid (Nat.le_trans hgs.out hb2.size)
        clear hK K9 hb2
        refine take_at (i := 7) (oi := _) 23 (v := .string (ta ++ ⟨#[32]⟩ ++ tb)) rfl rfl (by kernel_rfl) (by kernel_rfl) (by kernel_rfl) (fun _ _ _ h => h) (Or.inl ⟨by rfl, ?_⟩) hHeld ?_
        · (intro w hSw; (try dsimp only at hSw); go_split_ands; go_simp)
        simp only [List.setIfInBounds_toArray, List.set_cons_zero, List.set_cons_succ]
        refine take_at (i := 8) (oi := _) 24 (v := .string (ta ++ ⟨#[32]⟩ ++ tb ++ ⟨#[32]⟩)) rfl rfl (by kernel_rfl) (by kernel_rfl) (by kernel_rfl) (fun _ _ _ h => h) (Or.inl ⟨by rfl, ?_⟩) hHeld ?_
        · (intro w hSw; (try dsimp only at hSw); go_split_ands; go_simp)
        simp only [List.setIfInBounds_toArray, List.set_cons_zero, List.set_cons_succ]
        refine wpAnyH_ready (rs := [11]) (by kernel_rfl) (by simp) ?_
        refine AllReadyH.cons (o := _) rfl (fun K9 hK => ?_) AllReadyH.nil
        go_simp
        refine (P3.out _ (HP.out.keep HB.out)).mono ?_
        rintro e w2 ⟨rfl, hb2⟩
        refine hK.out _ _ ⟨cell_on hb2 hHeld.1, cell_on hb2 hHeld.2.1, cell_on hb2 hHeld.2.2.1, cell_on hb2 hHeld.2.2.2⟩ (fun hHeld => ?_)
        replace HB := Lib.hid (below_on HB.out hb2)
        replace K := Lib.hid (K.out.on hb2)
        replace HI := Lib.hid (isB_on HI.out hb2)
        replace hgs := Lib.hid (Nat.le_trans hgs.out hb2.size)
        clear hK K9 hb2
        refine take_at (i := 12) (oi := _) 28 (v := .string (ta ++ ⟨#[32]⟩ ++ tb ++ ⟨#[32]⟩ ++ tc)) rfl rfl (by kernel_rfl) (by kernel_rfl) (by kernel_rfl) (fun _ _ _ h => h) (Or.inl ⟨by rfl, ?_⟩) hHeld ?_
        · (intro w hSw; (try dsimp only at hSw); go_split_ands; go_simp)
        simp only [List.setIfInBounds_toArray, List.set_cons_zero, List.set_cons_succ]
        refine take_at (i := 13) (oi := _) 29 (v := .string (ta ++ ⟨#[32]⟩ ++ tb ++ ⟨#[32]⟩ ++ tc ++ ⟨#[32]⟩)) rfl rfl (by kernel_rfl) (by kernel_rfl) (by kernel_rfl) (fun _ _ _ h => h) (Or.inl ⟨by rfl, ?_⟩) hHeld ?_
        · (intro w hSw; (try dsimp only at hSw); go_split_ands; go_simp)
        simp only [List.setIfInBounds_toArray, List.set_cons_zero, List.set_cons_succ]
        refine wpAnyH_ready (rs := [16]) (by kernel_rfl) (by simp) ?_
        refine AllReadyH.cons (o := _) rfl (fun K9 hK => ?_) AllReadyH.nil
        go_simp
        refine (P4.out _ (HP.out.keep HB.out)).mono ?_
        rintro e w2 ⟨rfl, hb2⟩
        refine hK.out _ _ ⟨cell_on hb2 hHeld.1, cell_on hb2 hHeld.2.1, cell_on hb2 hHeld.2.2.1, cell_on hb2 hHeld.2.2.2⟩ (fun hHeld => ?_)
        replace HB := Lib.hid (below_on HB.out hb2)
        replace K := Lib.hid (K.out.on hb2)
        replace HI := Lib.hid (isB_on HI.out hb2)
        replace hgs := Lib.hid (Nat.le_trans hgs.out hb2.size)
        clear hK K9 hb2
        refine take_at (i := 17) (oi := _) 33 (v := .string (ta ++ ⟨#[32]⟩ ++ tb ++ ⟨#[32]⟩ ++ tc ++ ⟨#[32]⟩ ++ td)) rfl rfl (by kernel_rfl) (by kernel_rfl) (by kernel_rfl) (fun _ _ _ h => h) (Or.inl ⟨by rfl, ?_⟩) hHeld ?_
        · (intro w hSw; (try dsimp only at hSw); go_split_ands; go_simp)
        simp only [List.setIfInBounds_toArray, List.set_cons_zero, List.set_cons_succ]
        refine take_at (i := 18) (oi := _) 34 (v := .string (ta ++ ⟨#[32]⟩ ++ tb ++ ⟨#[32]⟩ ++ tc ++ ⟨#[32]⟩ ++ td ++ ⟨#[10]⟩)) rfl rfl (by kernel_rfl) (by kernel_rfl) (by kernel_rfl) (fun _ _ _ h => h) (Or.inl ⟨by rfl, ?_⟩) hHeld ?_
        · (intro w hSw; (try dsimp only at hSw); go_split_ands; go_simp)
        simp only [List.setIfInBounds_toArray, List.set_cons_zero, List.set_cons_succ]
        refine wpAnyH_ready (rs := [19]) (by kernel_rfl) (by simp) ?_
        refine AllReadyH.cons (o := _) rfl (fun K9 hK => ?_) AllReadyH.nil
        go_simp
        rw [← HL.out]
        refine (HW.out _ HI.out hgs.out).mono ?_
        rintro e w2 ⟨rfl, hat, hb2, hoth⟩
        have hKn : Blk w2 wo.heap.size 50 #[.int .i64 p, .int .i64 l, .int .i64 f, .int .i64 t] := hoth _ _ _ HNE.out (by decide) K.out
        have HB2 := Lib.hid (HB.out.trans (hb2.mono hwg.out))
        have HI2 := Lib.hid (show IsB g g (Lib.byteCells (ctTo xs (k + 1))) w2 from .inr (by rw [HE.out, Lib.byteCells_append]; exact hat))
        have hgs2 := Lib.hid (show g < w2.heap.size from Lib.BuilderAt.lt hat)
        refine hK.out _ _ hKn.c4 (fun hHeld => ?_)
        clear hK K9 hb2 hat hoth hKn
        refine wpAnyH_done (by kernel_rfl) ?_ _
        clear hHeld
        go_wp2_with fail
        go_roundw
        case rel =>
          first
          | exact ⟨k + 1, by omega, by go_num, HI2.out, hgs2.out, HB2.out⟩
          | ((repeat apply Exists.intro); exact ⟨⟨k + 1, by omega, by go_num, HI2.out, hgs2.out, HB2.out⟩, rfl⟩)
        case measure => simp [intOf]; omega
      · obtain rfl : k = n := by omega
        have HB := Lib.hid hb
        have HI := Lib.hid hib
        have hgs9 := Lib.hid (Nat.le_of_lt hgs)
        clear hb hib hgs
        go_wp2_with fail
        refine (Tryd.Builder_String_any g g (ctTo xs k) _ HI.out hgs9.out).mono ?_
        rintro e w2 ⟨rfl, hb2⟩
        have HB2 := Lib.hid (HB.out.trans (hb2.mono hwg.out))
        clear hb2
        go_wp2_with fail
        go_ret2
        exact ⟨by rw [hf.out]; rfl, HB2.out⟩
end Go.Proofs.YtamehlafmfmgmaaDoor
