/- The contract of the program's ShortWay. Condition: the slice can be read. -/
import Derived.Test.YtciolimmfldpbaaCross
import Derived.Test.YtciolimmfldpbaaSpotS
import Derived.Test.YtciolimmfldpbaaWayLaw
import Derived.StillTailTactics
import Derived.Deep.DeepCutAuto
namespace Go.Proofs.Ytciolimmfldpbaa
open Go.RowKit

set_option maxHeartbeats 2000000 in
theorem ShortWay_any (v : Value) (n B : Nat) (xs : List Int) (w : World) (hv : Rd w B 2 v n xs) (hB : B ≤ w.heap.size) (hn : n ≤ 1099511627776) :
    Calls Try.prog 27 #[v] w fun e w' => ∃ u, e = .returned (.tuple #[u, .bool (wayB n xs)]) ∧ w'.ownsRow w.heap.size 29 2 u (swN n xs) (ints (swL n xs)) ∧ Below w.heap.size w w' := by
  obtain ⟨A, c, rfl⟩ := hv.form
  have Hv := Lib.hid hv
  clear hv
  cases h1 : wayB n xs with
  | false =>
    have hf := Lib.hid (show swL n xs = [] ∧ swN n xs = 0 by simp [swL, swN, h1])
    go_enter Try.func27, Try.ntmps27
    go_wp2_with fail
    refine (IsWay_any _ n B xs _ Hv.out hB hn).mono ?_
    rintro e w1 ⟨rfl, hb1⟩
    go_wp2_with fail
    go_ret2
    rw [hf.out.1, hf.out.2]
    exact ⟨_, rfl, World.ownsRow_nil _ _ _ _, hb1⟩
  | true =>
    have hf := Lib.hid (show swL n xs = shTo n xs n ∧ swN n xs = shN n xs n by simp [swL, swN, h1])
    have hw := wayB_yes h1
    have h12 : 2 ≤ n := hw.1.1
    have h13 : n ≤ 12 := hw.1.2
    have HL := Lib.hid hw.2.1
    have HOk := Lib.hid hw.2.2
    clear hw
    obtain ⟨b, off, rfl, hbB, hc⟩ := Hv.out.spot (show 0 < n by omega)
    have HC := Lib.hid hc
    clear hc
    go_enter Try.func27, Try.ntmps27
    go_wp2_with fail
    refine (IsWay_any _ n B xs _ Hv.out hB hn).mono ?_
    rintro e w1 ⟨rfl, hb1⟩
    go_wp2_with fail
    go_loopw [4, 15] (fun o i wr => ∃ k : Nat, k ≤ n ∧ i = .int .i64 k ∧ wr.ownsRow w.heap.size 29 2 o (shN n xs k) (ints (shTo n xs k)) ∧ Below w.heap.size w wr) (fun _ i _ => n - (intOf i).toNat)
    case atStart => exact ⟨0, Nat.zero_le _, rfl, own_base (own_empty _ _ _) (by simp [hb1.size]), below_new hb1 _⟩
    case round =>
      obtain ⟨k, hk, rfl, hown, hb⟩ := hrel
      have HB := Lib.hid hb
      have HO := Lib.hid hown
      clear hown hb hb1
      have hm := shN_le n xs k
      by_cases hlt : k < n
      · have hc := HC.out
        have i0 : (0 : Int) ≤ (k : Int) := by omega
        have i1 : (k : Int) < (n : Int) := by omega
        by_cases hk0 : 0 < k
        · have hd : decide ((0 : Int) < (k : Int)) = true := by simp; omega
          by_cases hk1 : k + 1 < n
          · have hc0 := hc k (by omega)
            obtain ⟨x, ex⟩ : ∃ a, X xs k = a := ⟨_, rfl⟩
            obtain ⟨y, ey⟩ : ∃ a, Y xs k = a := ⟨_, rfl⟩
            rw [ex, ey] at hc0
            have c0 := (HB.out.cell (p := ⟨b, off + k * 2, none⟩) (Nat.lt_of_lt_of_le hbB hB)).trans hc0.1
            have c1 := (HB.out.cell (p := ⟨b, off + k * 2 + 1, none⟩) (Nat.lt_of_lt_of_le hbB hB)).trans hc0.2
            have hc1 := hc (k - 1) (by omega)
            have hc2 := hc (k + 1) (by omega)
            obtain ⟨x0, ex0⟩ : ∃ a, X xs (k - 1) = a := ⟨_, rfl⟩
            obtain ⟨y0, ey0⟩ : ∃ a, Y xs (k - 1) = a := ⟨_, rfl⟩
            obtain ⟨x2, ex2⟩ : ∃ a, X xs (k + 1) = a := ⟨_, rfl⟩
            obtain ⟨y2, ey2⟩ : ∃ a, Y xs (k + 1) = a := ⟨_, rfl⟩
            rw [ex0, ey0] at hc1
            rw [ex2, ey2] at hc2
            have hs := sh_same HOk.out hk0 hk1
            rw [ex, ey, ex0, ey0, ex2, ey2] at hs
            have s0 := HL.out (k - 1) (by omega)
            have s1 := HL.out k (by omega)
            have s2 := HL.out (k + 1) (by omega)
            rw [ex0, ey0] at s0
            rw [ex, ey] at s1
            rw [ex2, ey2] at s2
            have hyes := fun (h : keepB n xs k = true) => sh_yes h
            have hno := fun (h : keepB n xs k = false) => sh_no h
            rw [ex, ey] at hyes
            have HYes := Lib.hid hyes
            have HNo := Lib.hid hno
            have hP := fun W => crossOf_any x0 y0 x y x2 y2 W s0 s1 s2
            have hQ := fun W => onWay_any x0 y0 x2 y2 x y W s0 s2 s1
            obtain ⟨q, eq⟩ : ∃ q, crossL x0 y0 x y x2 y2 = q := ⟨_, rfl⟩
            obtain ⟨r, er⟩ : ∃ r, onB x0 y0 x2 y2 x y = r := ⟨_, rfl⟩
            rw [eq] at hP hs
            rw [er] at hQ hs
            have HP := Lib.hid hP
            have HQ := Lib.hid hQ
            have HS := Lib.hid hs
            have d0 := (HB.out.cell (p := ⟨b, off + (k - 1) * 2, none⟩) (Nat.lt_of_lt_of_le hbB hB)).trans hc1.1
            have d1 := (HB.out.cell (p := ⟨b, off + (k - 1) * 2 + 1, none⟩) (Nat.lt_of_lt_of_le hbB hB)).trans hc1.2
            have e0 := (HB.out.cell (p := ⟨b, off + (k + 1) * 2, none⟩) (Nat.lt_of_lt_of_le hbB hB)).trans hc2.1
            have e1 := (HB.out.cell (p := ⟨b, off + (k + 1) * 2 + 1, none⟩) (Nat.lt_of_lt_of_le hbB hB)).trans hc2.2
            have i2 : (0 : Int) ≤ (k : Int) - 1 := by omega
            have i3 : (k : Int) - 1 < (n : Int) := by omega
            have i4 : ((k : Int) - 1).toNat = k - 1 := by omega
            have i5 := IntWalk.i64_in ((k : Int) - 1) (by omega)
            have i6 : (0 : Int) ≤ (k : Int) + 1 := by omega
            have i7 : (k : Int) + 1 < (n : Int) := by omega
            have i8 : ((k : Int) + 1).toNat = k + 1 := by omega
            have i9 := IntWalk.i64_in ((k : Int) + 1) (by omega)
            have i10 : (1 : Int) ≤ (k : Int) := by omega
            have i11 : (k : Int) < (n : Int) - 1 := by omega
            have hbn : b < wr.heap.size := Nat.lt_of_lt_of_le hbB (Nat.le_trans hB HB.out.size)
            clear ex ey ex0 ey0 ex2 ey2 eq er hc hc0 hc1 hc2 hs hyes hno hP hQ s0 s1 s2
            go_upto_region 8 with (fail)
            go_cut [7, 8] (fun s7 s8 wx => ∃ g1 g2 : Nat, s7 = .pointer (some ⟨g1, 0, none⟩) ∧ s8 = .pointer (some ⟨g2, 0, none⟩) ∧ Blk wx g1 29 #[.int .i64 x0, .int .i64 y0] ∧ Blk wx g2 29 #[.int .i64 x2, .int .i64 y2] ∧ Blk wx wr.heap.size 29 #[.int .i64 x, .int .i64 y] ∧ Below wr.heap.size wr wx)
            case first =>
              have f0 := cell_new d0 (.cells #[.int .i64 x, .int .i64 y] 29)
              have f1 := cell_new d1 (.cells #[.int .i64 x, .int .i64 y] 29)
              have f2 := cell_new e0 (.cells #[.int .i64 x, .int .i64 y] 29)
              have f3 := cell_new e1 (.cells #[.int .i64 x, .int .i64 y] 29)
              go_region_held3 (fun W => W.cell? ⟨b, off + (k - 1) * 2, none⟩ = some (.int .i64 x0) ∧ W.cell? ⟨b, off + (k - 1) * 2 + 1, none⟩ = some (.int .i64 y0) ∧ W.cell? ⟨b, off + (k + 1) * 2, none⟩ = some (.int .i64 x2) ∧ W.cell? ⟨b, off + (k + 1) * 2 + 1, none⟩ = some (.int .i64 y2))
                (first | exact ⟨f0, f1, f2, f3⟩ | go_keep)
                (fail)
              · go_wp2_with fail
                go_meet
                exact ⟨_, _, rfl, rfl, ((Blk.new2 _ _ _ _).alloc _).drew, (Blk.new3 _ _ _ _ _).drew, (((Blk.new _ _ _).alloc _).alloc _).drew, (below_new (below_new (below_new (Below.refl _ _) _) _) _).drew⟩
              · go_wp2_with fail
                go_meet
                exact ⟨_, _, rfl, rfl, (Blk.new3 _ _ _ _ _).drew, ((Blk.new2 _ _ _ _).alloc _).drew, (((Blk.new _ _ _).alloc _).alloc _).drew, (below_new (below_new (below_new (Below.refl _ _) _) _) _).drew⟩
            case rest =>
              obtain ⟨g1, g2, rfl, rfl, k1, k2, k3, hb5⟩ := hcut
              have HO5 := Lib.hid (own_below HO.out hb5 (Nat.le_refl _))
              have HB5 := Lib.hid (below_on HB.out hb5)
              obtain ⟨a0, a1⟩ := k1.c2
              obtain ⟨a2, a3⟩ := k2.c2
              obtain ⟨a4, a5⟩ := k3.c2
              have K1 := Lib.hid k1
              have K2 := Lib.hid k2
              have K3 := Lib.hid k3
              clear k1 k2 k3 hb5 d0 d1 e0 e1 c0 c1
              go_wp2_with fail
              refine (HP.out _).mono ?_
              rintro e w6 ⟨rfl, hb6⟩
              have HO6 := Lib.hid (own_below HO5.out hb6 (Nat.le_refl _))
              have HB6 := Lib.hid (below_on HB5.out hb6)
              have k1 := K1.out.on hb6
              have k2 := K2.out.on hb6
              have k3 := K3.out.on hb6
              clear K1 K2 K3 HO5 HB5 a0 a1 a2 a3 a4 a5 hb6
              obtain ⟨a4, a5⟩ := k3.c2
              cases hq0 : (q == 0) with
              | false =>
                have hs := HS.out
                rw [hq0, Bool.false_and] at hs
                have HK := Lib.hid (HYes.out (by simpa using hs.symm))
                have HW := HO6
                have HBw := HB6
                clear hs k1 k2 k3
                have HO2 := Lib.hid (HW.out.alloc (.cells #[.int .i64 x, .int .i64 y] 29))
                have HB2 := Lib.hid (below_new HBw.out (.cells #[.int .i64 x, .int .i64 y] 29))
                have n0 := (Blk.new w6 29 #[.int .i64 x, .int .i64 y]).c2
                have hsz := HBw.out.size
                obtain ⟨n0, n1⟩ := n0
                go_wp2_with (at_builtin; refine app_spot rfl _ _ rfl w.heap.size _ _ _ rfl HO2.out w6.heap.size x y rfl n0 n1 (by omega) (by simp; omega) ?_; intro v' w3 ho3 hg3)
                have hb3 : Below w.heap.size w w3 := HB2.out.grown hg3 (by simp; omega) (fun g hg => (HO2.out.lt g hg).1)
                rw [← HK.out.1, ← HK.out.2] at ho3
                have HO3 := Lib.hid ho3
                have HB3 := Lib.hid hb3
                clear ho3 hb3 hg3 n0 n1
                go_wp2_with fail
                go_roundw
                case rel => exact ⟨k + 1, by omega, by go_num, HO3.out, HB3.out⟩
                case measure => simp [intOf]; omega
              | true =>
                obtain ⟨a0, a1⟩ := k1.c2
                obtain ⟨a2, a3⟩ := k2.c2
                have K3 := Lib.hid k3
                clear k1 k2 k3
                go_wp2_with fail
                refine (HQ.out _).mono ?_
                rintro e w7 ⟨rfl, hb7⟩
                have HO7 := Lib.hid (own_below HO6.out hb7 (Nat.le_refl _))
                have HB7 := Lib.hid (below_on HB6.out hb7)
                have k3 := K3.out.on hb7
                clear K3 a0 a1 a2 a3 a4 a5 hb7
                obtain ⟨a4, a5⟩ := k3.c2
                have hs := HS.out
                rw [hq0, Bool.true_and] at hs
                cases r with
                | true =>
                  have HK := Lib.hid (HNo.out (by simpa using hs.symm))
                  clear hs k3
                  go_wp2_with fail
                  go_roundw
                  case rel => exact ⟨k + 1, by omega, by go_num, by rw [HK.out.1, HK.out.2]; exact HO7.out, HB7.out⟩
                  case measure => simp [intOf]; omega
                | false =>
                  have HK := Lib.hid (HYes.out (by simpa using hs.symm))
                  have HW := HO7
                  have HBw := HB7
                  clear hs k3
                  have HO2 := Lib.hid (HW.out.alloc (.cells #[.int .i64 x, .int .i64 y] 29))
                  have HB2 := Lib.hid (below_new HBw.out (.cells #[.int .i64 x, .int .i64 y] 29))
                  have n0 := (Blk.new w7 29 #[.int .i64 x, .int .i64 y]).c2
                  have hsz := HBw.out.size
                  obtain ⟨n0, n1⟩ := n0
                  go_wp2_with (at_builtin; refine app_spot rfl _ _ rfl w.heap.size _ _ _ rfl HO2.out w7.heap.size x y rfl n0 n1 (by omega) (by simp; omega) ?_; intro v' w3 ho3 hg3)
                  have hb3 : Below w.heap.size w w3 := HB2.out.grown hg3 (by simp; omega) (fun g hg => (HO2.out.lt g hg).1)
                  rw [← HK.out.1, ← HK.out.2] at ho3
                  have HO3 := Lib.hid ho3
                  have HB3 := Lib.hid hb3
                  clear ho3 hb3 hg3 n0 n1
                  go_wp2_with fail
                  go_roundw
                  case rel => exact ⟨k + 1, by omega, by go_num, HO3.out, HB3.out⟩
                  case measure => simp [intOf]; omega
          · have hd2 : decide ((k : Int) < (n : Int) - 1) = false := by simp; omega
            have hi2 : (n : Int) - 1 ≤ (k : Int) := by omega
            have hc0 := hc k (by omega)
            obtain ⟨x, ex⟩ : ∃ a, X xs k = a := ⟨_, rfl⟩
            obtain ⟨y, ey⟩ : ∃ a, Y xs k = a := ⟨_, rfl⟩
            rw [ex, ey] at hc0
            have c0 := (HB.out.cell (p := ⟨b, off + k * 2, none⟩) (Nat.lt_of_lt_of_le hbB hB)).trans hc0.1
            have c1 := (HB.out.cell (p := ⟨b, off + k * 2 + 1, none⟩) (Nat.lt_of_lt_of_le hbB hB)).trans hc0.2
            have HK := Lib.hid (sh_yes (keep_last (xs := xs) (show k + 1 = n by omega)))
            rw [ex, ey] at HK
            have HO2 := Lib.hid ((HO.out.alloc (.cells #[.int .i64 x, .int .i64 y] 29)).alloc (.cells #[.int .i64 x, .int .i64 y] 29))
            have HB2 := Lib.hid (below_new (below_new HB.out (.cells #[.int .i64 x, .int .i64 y] 29)) (.cells #[.int .i64 x, .int .i64 y] 29))
            have n0 := (Blk.new2 wr (.cells #[.int .i64 x, .int .i64 y] 29) 29 #[.int .i64 x, .int .i64 y]).c2
            have hsz := HB.out.size
            obtain ⟨n0, n1⟩ := n0
            clear ex ey hc hc0
            go_wp2_with (at_builtin; refine app_spot rfl _ _ rfl w.heap.size _ _ _ rfl HO2.out (wr.heap.size + 1) x y rfl n0 n1 (by omega) (by simp; omega) ?_; intro v' w3 ho3 hg3)
            have hb3 : Below w.heap.size w w3 := HB2.out.grown hg3 (by simp; omega) (fun g hg => (HO2.out.lt g hg).1)
            rw [← HK.out.1, ← HK.out.2] at ho3
            have HO3 := Lib.hid ho3
            have HB3 := Lib.hid hb3
            clear ho3 hb3 hg3 n0 n1
            go_wp2_with fail
            go_roundw
            case rel => exact ⟨k + 1, by omega, by go_num, HO3.out, HB3.out⟩
            case measure => simp [intOf]; omega
        · have hd : decide ((0 : Int) < (k : Int)) = false := by simp; omega
          have hi2 : (k : Int) ≤ 0 := by omega
          have hc0 := hc k (by omega)
          obtain ⟨x, ex⟩ : ∃ a, X xs k = a := ⟨_, rfl⟩
          obtain ⟨y, ey⟩ : ∃ a, Y xs k = a := ⟨_, rfl⟩
          rw [ex, ey] at hc0
          have c0 := (HB.out.cell (p := ⟨b, off + k * 2, none⟩) (Nat.lt_of_lt_of_le hbB hB)).trans hc0.1
          have c1 := (HB.out.cell (p := ⟨b, off + k * 2 + 1, none⟩) (Nat.lt_of_lt_of_le hbB hB)).trans hc0.2
          have hk00 : k = 0 := by omega
          have HK0 := Lib.hid (show keepB n xs k = true by rw [hk00]; exact keep_first n xs)
          clear hk00
          have HK := Lib.hid (sh_yes HK0.out)
          rw [ex, ey] at HK
          have HO2 := Lib.hid ((HO.out.alloc (.cells #[.int .i64 x, .int .i64 y] 29)).alloc (.cells #[.int .i64 x, .int .i64 y] 29))
          have HB2 := Lib.hid (below_new (below_new HB.out (.cells #[.int .i64 x, .int .i64 y] 29)) (.cells #[.int .i64 x, .int .i64 y] 29))
          have n0 := (Blk.new2 wr (.cells #[.int .i64 x, .int .i64 y] 29) 29 #[.int .i64 x, .int .i64 y]).c2
          have hsz := HB.out.size
          obtain ⟨n0, n1⟩ := n0
          clear ex ey hc hc0
          go_wp2_with (at_builtin; refine app_spot rfl _ _ rfl w.heap.size _ _ _ rfl HO2.out (wr.heap.size + 1) x y rfl n0 n1 (by omega) (by simp; omega) ?_; intro v' w3 ho3 hg3)
          have hb3 : Below w.heap.size w w3 := HB2.out.grown hg3 (by simp; omega) (fun g hg => (HO2.out.lt g hg).1)
          rw [← HK.out.1, ← HK.out.2] at ho3
          have HO3 := Lib.hid ho3
          have HB3 := Lib.hid hb3
          clear ho3 hb3 hg3 n0 n1
          go_wp2_with fail
          go_roundw
          case rel => exact ⟨k + 1, by omega, by go_num, HO3.out, HB3.out⟩
          case measure => simp [intOf]; omega
      · obtain rfl : k = n := by omega
        go_wp2_with fail
        go_ret2
        rw [hf.out.1, hf.out.2]
        exact ⟨_, rfl, HO.out, HB.out⟩
end Go.Proofs.Ytciolimmfldpbaa
