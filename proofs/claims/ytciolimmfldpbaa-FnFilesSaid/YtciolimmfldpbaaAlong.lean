/- Contracts of the spot at a length of a way, in the program and in the reference. Conditions: the list is a way, and the length is one of it. -/
import Derived.Test.YtciolimmfldpbaaAlongFn
import Derived.Test.YtciolimmfldpbaaMinMax
import Derived.Test.YtciolimmfldpbaaCornerFn
import Derived.Test.YtciolimmfldpbaaSet
import Derived.StillTailTactics
import Derived.Deep.DeepCutAuto
namespace Go.Proofs.Ytciolimmfldpbaa
open Go.RowKit

set_option maxHeartbeats 2000000 in
theorem spotAlong_any (v : Value) (n B : Nat) (xs : List Int) (L : Int) (w : World) (hv : Rd w B 2 v n xs) (hB : B ≤ w.heap.size) (hw : wayB n xs = true) (hL0 : 0 ≤ L) (hL : L ≤ lenTo xs (n - 1)) :
    Calls Try.prog 39 #[v, .int .i64 L] w fun e w' => e = .returned (Value.agg #[Value.int .i64 (alX n xs L), Value.int .i64 (alY n xs L)]) ∧ Below w.heap.size w w' := by
  obtain ⟨⟨h2, hn⟩, hl, hok⟩ := wayB_yes hw
  have Hv := Lib.hid hv
  obtain ⟨A, c, rfl⟩ := hv.form
  have HL := Lib.hid hl
  have HI := Lib.hid (fun k (hk : k < n) => lenTo_in hl k hk)
  have HK := Lib.hid hok
  have HM := Lib.hid hL
  have h0 := (Blk.new w 29 #[.int .i64 0, .int .i64 0])
  have HB0 := Lib.hid (below_new (Below.refl w.heap.size w) (.cells #[.int .i64 0, .int .i64 0] 29))
  clear hv hl hok hw hL
  go_enter Try.func39, Try.ntmps39
  go_wp2_with fail
  go_loopw [1, 5] (fun q i wr => ∃ (k : Nat) (r : Int), k + 2 ≤ n ∧ i = .int .i64 ((k : Int) + 1) ∧ q = .int .i64 r ∧ r = L - lenTo xs k ∧ 0 ≤ r ∧ fp xs L (n - 2 - k) k = alK n xs L ∧ Blk wr w.heap.size 29 #[.int .i64 0, .int .i64 0] ∧ Below w.heap.size w wr) (fun _ i _ => n - (intOf i).toNat)
  case atStart => exact ⟨0, L, by omega, by simp, rfl, by simp [lenTo], hL0, rfl, h0, HB0.out⟩
  case round =>
    obtain ⟨k, r, hk, rfl, rfl, hr, hr0, hfp, hblk, hb⟩ := hrel
    clear h0 HB0 hL0
    have HR := Lib.hid hr
    have HF := Lib.hid hfp
    obtain ⟨b, off, rfl, hbB, hc⟩ := Hv.out.spot (by omega)
    have hc0 := hc k (by omega)
    have hc1 := hc (k + 1) (by omega)
    have hst := straight_of HK.out (show k + 1 < n by omega)
    have hal := fun (h : alK n xs L = k) => al_at h
    have hs : lenTo xs (k + 1) = lenTo xs k + farAt xs k := rfl
    unfold farAt at hs
    obtain ⟨x, ex⟩ : ∃ x, X xs k = x := ⟨_, rfl⟩
    obtain ⟨y, ey⟩ : ∃ y, Y xs k = y := ⟨_, rfl⟩
    obtain ⟨z, ez⟩ : ∃ z, X xs (k + 1) = z := ⟨_, rfl⟩
    obtain ⟨u, eu⟩ : ∃ u, Y xs (k + 1) = u := ⟨_, rfl⟩
    have s1 := HL.out k (by omega)
    have s2 := HL.out (k + 1) (by omega)
    have hi := HI.out k (by omega)
    rw [ex, ey] at hc0 s1
    rw [ez, eu] at hc1 s2
    rw [ex, ey, ez, eu] at hst hs hal
    obtain ⟨p, ep⟩ : ∃ p, farL x y z u = p := ⟨_, rfl⟩
    have hf := farL_in s1 s2
    rw [ep] at hf
    have hfs := far_straight hst
    have hPL := fun W => partLength_any x y z u W s1 s2
    obtain ⟨b1, b2, b3, b4⟩ := spotB_yes s1
    obtain ⟨b5, b6, b7, b8⟩ := spotB_yes s2
    obtain ⟨f1, f2⟩ := hf
    rw [ep] at hfs hs hPL
    rw [← hr] at hal
    have HP := Lib.hid hPL
    have HA := Lib.hid hal
    have hbig : r ≤ 30000 := by have := HM.out; have := (HI.out (n - 1) (by omega)).2; omega
    have c0 := (hb.cell (p := ⟨b, off + k * 2, none⟩) (Nat.lt_of_lt_of_le hbB hB)).trans hc0.1
    have c1 := (hb.cell (p := ⟨b, off + k * 2 + 1, none⟩) (Nat.lt_of_lt_of_le hbB hB)).trans hc0.2
    have d0 := (hb.cell (p := ⟨b, off + (k + 1) * 2, none⟩) (Nat.lt_of_lt_of_le hbB hB)).trans hc1.1
    have d1 := (hb.cell (p := ⟨b, off + (k + 1) * 2 + 1, none⟩) (Nat.lt_of_lt_of_le hbB hB)).trans hc1.2
    have i0 : (0 : Int) ≤ (k : Int) := by omega
    have i1 : (k : Int) < (n : Int) := by omega
    have i2 : (0 : Int) ≤ (k : Int) + 1 := by omega
    have i3 : (k : Int) + 1 < (n : Int) := by omega
    have i4 : ((k : Int) + 1).toNat = k + 1 := by omega
    have i5 := IntWalk.i64_in (k : Int) (by omega)
    have i6 := IntWalk.i64_in ((k : Int) + 1) (by omega)
    have HB := Lib.hid hb
    have HBk := Lib.hid hblk
    have HS := Lib.hid hs
    obtain ⟨p0, px, py⟩ := hfs
    have q1 := Lib.hid (share (r := r) px p0)
    have q2 := Lib.hid (share (r := r) py p0)
    obtain ⟨j1, j2⟩ := hi
    clear hc hc0 hc1 ex ey ez eu ep hst hs hal hPL s1 s2 hb hblk hr hfp px py
    go_wp2_with fail
    go_region_held3 (fun W => W.cell? ⟨b, off + k * 2, none⟩ = some (.int .i64 x) ∧ W.cell? ⟨b, off + k * 2 + 1, none⟩ = some (.int .i64 y) ∧ W.cell? ⟨b, off + (k + 1) * 2, none⟩ = some (.int .i64 z) ∧ W.cell? ⟨b, off + (k + 1) * 2 + 1, none⟩ = some (.int .i64 u) ∧ Blk W w.heap.size 29 #[.int .i64 0, .int .i64 0] ∧ Below w.heap.size w W)
      (first | exact ⟨c0, c1, d0, d1, HBk.out.drew, HB.out.drew⟩ | (go_split_ands; exact ⟨cell_on hb2 (by assumption), cell_on hb2 (by assumption), cell_on hb2 (by assumption), cell_on hb2 (by assumption), Blk.on (by assumption) hb2, below_on (by assumption) hb2⟩) | go_keep)
      (first | (go_at_call 65; refine (HP.out _).mono ?_; rintro e w2 ⟨rfl, hb2⟩))
    go_split_ands
    rename_i c0 c1 d0 d1 hb8 hb9
    have HB9 := Lib.hid hb9
    have HB8 := Lib.hid hb8
    clear hb9 hb8
    by_cases hle : r ≤ p
    · have hgx := sg_mul_in (d := z - x) hr0 hbig
      have hgy := sg_mul_in (d := u - y) hr0 hbig
      have hm1 := mul_in (x := r) (y := z - x) (a := 30000) (b := 1280) (by omega) (by omega) (by omega) (by omega)
      have hm2 := mul_in (x := r) (y := u - y) (a := 30000) (b := 672) (by omega) (by omega) (by omega) (by omega)
      have hk2 : alK n xs L = k := by rw [← HF.out]; exact fp_here (by have h1 := HR.out; have h2 := HS.out; omega)
      have hal := HA.out hk2
      have g1 := q1.out
      have g2 := q2.out
      obtain ⟨gx, eg⟩ : ∃ gx, sg (z - x) * r = gx := ⟨_, rfl⟩
      obtain ⟨gy, eg'⟩ : ∃ gy, sg (u - y) * r = gy := ⟨_, rfl⟩
      rw [eg] at g1 hgx hal
      rw [eg'] at g2 hgy hal
      have HAL := Lib.hid hal
      have e1 := IntWalk.i64_in (z - x) (by omega)
      have e2 := IntWalk.i64_in (u - y) (by omega)
      have e3 := IntWalk.i64_in (r * (z - x)) (by omega)
      have e4 := IntWalk.i64_in (r * (u - y)) (by omega)
      have e5 := IntWalk.i64_in (x + gx) (by omega)
      have e6 := IntWalk.i64_in (y + gy) (by omega)
      have e7 := IntWalk.i64_in gx (by omega)
      have e8 := IntWalk.i64_in gy (by omega)
      have e9 : ¬ p = 0 := by omega
      clear hal eg eg' hk2 hm1 hm2 HA HP
      have n0 := HB8.out.cell 0
      have n1 := HB8.out.cell 1
      have n2 := HB8.out.frozen 0
      have n3 := HB8.out.frozen 1
      simp at n0 n1
      go_wp2_with fail
      go_still_tail 47, (by kernel_rfl)
      go_wp2_with fail
      obtain ⟨m0, m1⟩ := (HB8.out.set2 (.int .i64 (x + gx)) (.int .i64 (y + gy))).drew.c2
      exact bodyPost_ret (v := (Value.agg #[Value.int .i64 (x + gx), Value.int .i64 (y + gy)])) (by simp [results, Try.results39, go_sem, m0, m1]) rfl
        ⟨by rw [HAL.out.1, HAL.out.2], ((HB9.out.setCell (p := ⟨w.heap.size, 0, none⟩) (Nat.le_refl _) _).setCell (p := ⟨w.heap.size, 1, none⟩) (Nat.le_refl _) _).drew⟩
    · have hk3 : k + 2 < n := by
        rcases Nat.lt_or_ge (k + 2) n with h | h
        · exact h
        · exfalso
          have h1 := HR.out; have h2 := HS.out; have h3 := HM.out
          rw [show n - 1 = k + 1 by omega] at h3
          omega
      have hfp := fp_next (m := n - 2 - k) (k := k) (xs := xs) (L := L) (by omega) (by have h1 := HR.out; have h2 := HS.out; omega)
      rw [HF.out, show n - 2 - k - 1 = n - 2 - (k + 1) by omega] at hfp
      have HFP := Lib.hid hfp.symm
      clear hfp HF
      go_wp2_with fail
      go_roundw
      case rel => exact ⟨k + 1, r - p, by omega, by go_num, rfl, by have h1 := HR.out; have h2 := HS.out; omega, by omega, HFP.out, HB8.out, HB9.out⟩
      case measure => simp [intOf]; omega
end Go.Proofs.Ytciolimmfldpbaa
