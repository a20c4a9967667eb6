/- The contract of the reference's ShortWay. Condition: the slice can be read. -/
import Derived.Test.YtciolimmfldpbaaCornerFn
import Derived.Test.YtciolimmfldpbaaMinMax
import Derived.Test.YtciolimmfldpbaaSet
import Derived.Test.YtciolimmfldpbaaSpotS
import Derived.Test.YtciolimmfldpbaaWayLaw
namespace Go.Proofs.Ytciolimmfldpbaa
open Go.RowKit

theorem own_spot (w : World) (x y : Int) : (w.alloc (.cells #[.int .i64 x, .int .i64 y] 29)).ownsRow w.heap.size 29 2 (.slice (some ⟨w.heap.size, 0, none⟩) 1 1) 1 (ints [x, y]) :=
  ⟨by simp [ints], .inr ⟨w.heap.size, 1, #[.int .i64 x, .int .i64 y], rfl, Nat.le_refl _, heap_alloc_new w _, Nat.le_refl _, by unfold maxLen; omega, rfl, by first | rfl | (intro j u h; simpa [ints] using h) | simp [ints]⟩⟩

set_option maxRecDepth 100000 in
set_option maxHeartbeats 2000000 in
theorem specShortWay_any (v : Value) (n B : Nat) (xs : List Int) (w : World) (hv : Rd w B 2 v n xs) (hB : B ≤ w.heap.size) (hn : n ≤ 1099511627776) :
    Calls Try.prog 28 #[v] w fun e w' => ∃ u, e = .returned (.tuple #[u, .bool (wayB n xs)]) ∧ w'.ownsRow w.heap.size 29 2 u (swN n xs) (ints (swL n xs)) ∧ Below w.heap.size w w' := by
  obtain ⟨A, c, rfl⟩ := hv.form
  have Hv := Lib.hid hv
  clear hv
  cases h1 : wayB n xs with
  | false =>
    have hf := Lib.hid (show swL n xs = [] ∧ swN n xs = 0 by simp [swL, swN, h1])
    go_enter Try.func28, Try.ntmps28
    go_wp2_with fail
    refine (foGood_any _ n B xs _ Hv.out hB hn).mono ?_
    rintro e w1 ⟨rfl, hb1⟩
    go_wp2_with fail
    go_ret2
    rw [hf.out.1, hf.out.2]
    exact ⟨_, rfl, World.ownsRow_nil _ _ _ _, hb1⟩
  | true =>
    have hf := Lib.hid (show swL n xs = shTo n xs n ∧ swN n xs = shN n xs n by simp [swL, swN, h1])
    have hw := wayB_yes h1
    have h12 : 2 ≤ n := hw.1.1
    have h13 : n ≤ 12 := hw.1.2
    have HL := Lib.hid hw.2.1
    have HOk := Lib.hid hw.2.2
    clear hw
    obtain ⟨b, off, rfl, hbB, hc⟩ := Hv.out.spot (show 0 < n by omega)
    have HC := Lib.hid hc
    have hc0 := hc 0 (by omega)
    clear hc
    have HK0 := Lib.hid (sh_yes (keep_first n xs))
    obtain ⟨x, ex⟩ : ∃ a, X xs 0 = a := ⟨_, rfl⟩
    obtain ⟨y, ey⟩ : ∃ a, Y xs 0 = a := ⟨_, rfl⟩
    rw [ex, ey] at hc0 HK0
    clear ex ey
    rw [Nat.zero_mul, Nat.add_zero] at hc0
    have h0n : (0 : Int) < (n : Int) := by omega
    go_enter Try.func28, Try.ntmps28
    go_wp2_with fail
    refine (foGood_any _ n B xs _ Hv.out hB hn).mono ?_
    rintro e w1 ⟨rfl, hb1⟩
    have c0 := (hb1.cell (p := ⟨b, off, none⟩) (Nat.lt_of_lt_of_le hbB hB)).trans hc0.1
    have c1 := (hb1.cell (p := ⟨b, off + 1, none⟩) (Nat.lt_of_lt_of_le hbB hB)).trans hc0.2
    go_wp2_with fail
    have HB1 := Lib.hid hb1
    clear hb1 hc0 c0 c1
    go_loopw [4, 5] (fun o i wr => ∃ k : Nat, 0 < k ∧ k ≤ n ∧ i = .int .i64 k ∧ wr.ownsRow w.heap.size 29 2 o (shN n xs k) (ints (shTo n xs k)) ∧ Below w.heap.size w wr) (fun _ i _ => n - (intOf i).toNat)
    case atStart =>
      refine ⟨1, by omega, by omega, by simp, ?_, below_new HB1.out _⟩
      rw [HK0.out.1, HK0.out.2]
      exact own_base (own_spot w1 x y) HB1.out.size
    case round =>
      clear HK0 HB1
      obtain ⟨k, hk0, hk, rfl, hown, hb⟩ := hrel
      have HB := Lib.hid hb
      have HO := Lib.hid hown
      clear hown hb
      have hm := shN_le n xs k
      by_cases hlt : k < n
      · have hc := HC.out
        have i0 : (0 : Int) ≤ (k : Int) := by omega
        have i1 : (k : Int) < (n : Int) := by omega
        have hcb := hc k hlt
        obtain ⟨x, ex⟩ : ∃ a, X xs k = a := ⟨_, rfl⟩
        obtain ⟨y, ey⟩ : ∃ a, Y xs k = a := ⟨_, rfl⟩
        rw [ex, ey] at hcb
        have a0 := (HB.out.cell (p := ⟨b, off + k * 2, none⟩) (Nat.lt_of_lt_of_le hbB hB)).trans hcb.1
        have a1 := (HB.out.cell (p := ⟨b, off + k * 2 + 1, none⟩) (Nat.lt_of_lt_of_le hbB hB)).trans hcb.2
        have hyes := fun (h : keepB n xs k = true) => sh_yes h
        have HNo := Lib.hid (fun (h : keepB n xs k = false) => sh_no h)
        rw [ex, ey] at hyes
        have HYes := Lib.hid hyes
        clear hyes hcb
        have i6 : (0 : Int) ≤ (k : Int) + 1 := by omega
        have i9 := IntWalk.i64_in ((k : Int) + 1) (by omega)
        by_cases hk1 : k + 1 < n
        · have hd : decide ((k : Int) + 1 < (n : Int)) = true := by simp; omega
          have hc1 := hc (k - 1) (by omega)
          have hc2 := hc (k + 1) (by omega)
          obtain ⟨x0, ex0⟩ : ∃ a, X xs (k - 1) = a := ⟨_, rfl⟩
          obtain ⟨y0, ey0⟩ : ∃ a, Y xs (k - 1) = a := ⟨_, rfl⟩
          obtain ⟨x2, ex2⟩ : ∃ a, X xs (k + 1) = a := ⟨_, rfl⟩
          obtain ⟨y2, ey2⟩ : ∃ a, Y xs (k + 1) = a := ⟨_, rfl⟩
          rw [ex0, ey0] at hc1
          rw [ex2, ey2] at hc2
          have hs := keep_mid (xs := xs) hk0 hk1
          rw [ex, ey, ex0, ey0, ex2, ey2] at hs
          have s0 := HL.out (k - 1) (by omega)
          have s1 := HL.out k (by omega)
          have s2 := HL.out (k + 1) (by omega)
          rw [ex0, ey0] at s0
          rw [ex, ey] at s1
          rw [ex2, ey2] at s2
          obtain ⟨p1, p2, p3, p4⟩ := spotB_yes s0
          obtain ⟨q1, q2, q3, q4⟩ := spotB_yes s1
          obtain ⟨r1, r2, r3, r4⟩ := spotB_yes s2
          have HS := Lib.hid (show keepB n xs k = !((sg (x2 - x) == sg (x - x0)) && (sg (y2 - y) == sg (y - y0))) from hs)
          have d0 := (HB.out.cell (p := ⟨b, off + (k - 1) * 2, none⟩) (Nat.lt_of_lt_of_le hbB hB)).trans hc1.1
          have d1 := (HB.out.cell (p := ⟨b, off + (k - 1) * 2 + 1, none⟩) (Nat.lt_of_lt_of_le hbB hB)).trans hc1.2
          have e0 := (HB.out.cell (p := ⟨b, off + (k + 1) * 2, none⟩) (Nat.lt_of_lt_of_le hbB hB)).trans hc2.1
          have e1 := (HB.out.cell (p := ⟨b, off + (k + 1) * 2 + 1, none⟩) (Nat.lt_of_lt_of_le hbB hB)).trans hc2.2
          have i2 : (0 : Int) ≤ (k : Int) - 1 := by omega
          have i3 : (k : Int) - 1 < (n : Int) := by omega
          have i4 : ((k : Int) - 1).toNat = k - 1 := by omega
          have i5 := IntWalk.i64_in ((k : Int) - 1) (by omega)
          have i7 : (k : Int) + 1 < (n : Int) := by omega
          have i8 : ((k : Int) + 1).toNat = k + 1 := by omega
          have i10 : (1 : Int) ≤ (k : Int) := by omega
          have i11 := IntWalk.i64_in (k : Int) (by omega)
          have f1 := IntWalk.i64_in (x2 - x) (by omega)
          have f2 := IntWalk.i64_in (x - x0) (by omega)
          have f3 := IntWalk.i64_in (y2 - y) (by omega)
          have f4 := IntWalk.i64_in (y - y0) (by omega)
          clear ex ey ex0 ey0 ex2 ey2 hc hc1 hc2 hs s0 s1 s2 p1 p2 p3 p4 q1 q2 q3 q4 r1 r2 r3 r4
          cases hx : (sg (x2 - x) == sg (x - x0)) with
          | false =>
            have HK := Lib.hid (HYes.out (show keepB n xs k = true by rw [HS.out, hx]; rfl))
            go_wp2_with fail
            go_quiet ((go_at_call 62; exact Calls.quiet_of_same (flip_same (l1Sign_any _ _))))
            clear d0 d1 e0 e1 i2 i3 i4 i5 i7 i8 i10 i11 f1 f2 f3 f4
            have ho := own_drewN HO.out nq
            have hb := below_drewN HB.out nq
            have b0 : (wr.drewN nq).cell? ⟨b, off + k * 2, none⟩ = some (.int .i64 x) := a0
            have b1 : (wr.drewN nq).cell? ⟨b, off + k * 2 + 1, none⟩ = some (.int .i64 y) := a1
            clear a0 a1 HO HB
            generalize wr.drewN nq = w2 at ho hb b0 b1 ⊢
            have HO2 := Lib.hid ho
            have HB2 := Lib.hid hb
            clear ho hb
            have HO3 := Lib.hid (HO2.out.alloc (.cells #[.int .i64 x, .int .i64 y] 29))
            have HB3 := Lib.hid (below_new HB2.out (.cells #[.int .i64 x, .int .i64 y] 29))
            have n0 := (Blk.new w2 29 #[.int .i64 x, .int .i64 y]).c2
            have hsz := HB2.out.size
            obtain ⟨n0, n1⟩ := n0
            go_wp2_with (at_builtin; refine app_spot rfl _ _ rfl w.heap.size _ _ _ rfl HO3.out w2.heap.size x y rfl n0 n1 (by omega) (by simp; omega) ?_; intro v' w3 ho3 hg3)
            have hb3 : Below w.heap.size w w3 := HB3.out.grown hg3 (by simp; omega) (fun g hg => (HO3.out.lt g hg).1)
            rw [← HK.out.1, ← HK.out.2] at ho3
            have HO4 := Lib.hid ho3
            have HB4 := Lib.hid hb3
            clear ho3 hb3 hg3 n0 n1 b0 b1
            go_wp2_with fail
            go_roundw
            case rel => exact ⟨k + 1, by omega, by omega, by go_num, HO4.out, HB4.out⟩
            case measure => simp [intOf]; omega
          | true =>
            cases hy : (sg (y2 - y) == sg (y - y0)) with
            | false =>
              have HK := Lib.hid (HYes.out (show keepB n xs k = true by rw [HS.out, hx, hy]; rfl))
              go_wp2_with fail
              go_quiet ((go_at_call 62; exact Calls.quiet_of_same (flip_same (l1Sign_any _ _))))
              clear d0 d1 e0 e1 i2 i3 i4 i5 i7 i8 i10 i11 f1 f2 f3 f4
              have ho := own_drewN HO.out nq
              have hb := below_drewN HB.out nq
              have b0 : (wr.drewN nq).cell? ⟨b, off + k * 2, none⟩ = some (.int .i64 x) := a0
              have b1 : (wr.drewN nq).cell? ⟨b, off + k * 2 + 1, none⟩ = some (.int .i64 y) := a1
              clear a0 a1 HO HB
              generalize wr.drewN nq = w2 at ho hb b0 b1 ⊢
              have HO2 := Lib.hid ho
              have HB2 := Lib.hid hb
              clear ho hb
              have HO3 := Lib.hid (HO2.out.alloc (.cells #[.int .i64 x, .int .i64 y] 29))
              have HB3 := Lib.hid (below_new HB2.out (.cells #[.int .i64 x, .int .i64 y] 29))
              have n0 := (Blk.new w2 29 #[.int .i64 x, .int .i64 y]).c2
              have hsz := HB2.out.size
              obtain ⟨n0, n1⟩ := n0
              go_wp2_with (at_builtin; refine app_spot rfl _ _ rfl w.heap.size _ _ _ rfl HO3.out w2.heap.size x y rfl n0 n1 (by omega) (by simp; omega) ?_; intro v' w3 ho3 hg3)
              have hb3 : Below w.heap.size w w3 := HB3.out.grown hg3 (by simp; omega) (fun g hg => (HO3.out.lt g hg).1)
              rw [← HK.out.1, ← HK.out.2] at ho3
              have HO4 := Lib.hid ho3
              have HB4 := Lib.hid hb3
              clear ho3 hb3 hg3 n0 n1 b0 b1
              go_wp2_with fail
              go_roundw
              case rel => exact ⟨k + 1, by omega, by omega, by go_num, HO4.out, HB4.out⟩
              case measure => simp [intOf]; omega
            | true =>
              have HK := Lib.hid (HNo.out (show keepB n xs k = false by rw [HS.out, hx, hy]; rfl))
              go_wp2_with fail
              go_quiet ((go_at_call 62; exact Calls.quiet_of_same (flip_same (l1Sign_any _ _))))
              clear d0 d1 e0 e1 i2 i3 i4 i5 i7 i8 i10 i11 f1 f2 f3 f4
              have ho := own_drewN HO.out nq
              have hb := below_drewN HB.out nq
              have b0 : (wr.drewN nq).cell? ⟨b, off + k * 2, none⟩ = some (.int .i64 x) := a0
              have b1 : (wr.drewN nq).cell? ⟨b, off + k * 2 + 1, none⟩ = some (.int .i64 y) := a1
              clear a0 a1 HO HB
              generalize wr.drewN nq = w2 at ho hb b0 b1 ⊢
              have HO2 := Lib.hid ho
              have HB2 := Lib.hid hb
              clear ho hb
              go_wp2_with fail
              go_roundw
              case rel => exact ⟨k + 1, by omega, by omega, by go_num, by rw [HK.out.1, HK.out.2]; exact HO2.out, HB2.out⟩
              case measure => simp [intOf]; omega
        · have hd : decide ((k : Int) + 1 < (n : Int)) = false := by simp; omega
          have hi3 : (n : Int) ≤ (k : Int) + 1 := by omega
          have HK := Lib.hid (HYes.out (keep_last (show k + 1 = n by omega)))
          clear ex ey hc
          go_wp2_with fail
          go_quiet (fail)
          have ho := own_drewN HO.out nq
          have hb := below_drewN HB.out nq
          have b0 : (wr.drewN nq).cell? ⟨b, off + k * 2, none⟩ = some (.int .i64 x) := a0
          have b1 : (wr.drewN nq).cell? ⟨b, off + k * 2 + 1, none⟩ = some (.int .i64 y) := a1
          clear a0 a1 HO HB
          generalize wr.drewN nq = w2 at ho hb b0 b1 ⊢
          have HO2 := Lib.hid ho
          have HB2 := Lib.hid hb
          clear ho hb
          have HO3 := Lib.hid (HO2.out.alloc (.cells #[.int .i64 x, .int .i64 y] 29))
          have HB3 := Lib.hid (below_new HB2.out (.cells #[.int .i64 x, .int .i64 y] 29))
          have n0 := (Blk.new w2 29 #[.int .i64 x, .int .i64 y]).c2
          have hsz := HB2.out.size
          obtain ⟨n0, n1⟩ := n0
          go_wp2_with (at_builtin; refine app_spot rfl _ _ rfl w.heap.size _ _ _ rfl HO3.out w2.heap.size x y rfl n0 n1 (by omega) (by simp; omega) ?_; intro v' w3 ho3 hg3)
          have hb3 : Below w.heap.size w w3 := HB3.out.grown hg3 (by simp; omega) (fun g hg => (HO3.out.lt g hg).1)
          rw [← HK.out.1, ← HK.out.2] at ho3
          have HO4 := Lib.hid ho3
          have HB4 := Lib.hid hb3
          clear ho3 hb3 hg3 n0 n1 b0 b1
          go_wp2_with fail
          go_roundw
          case rel => exact ⟨k + 1, by omega, by omega, by go_num, HO4.out, HB4.out⟩
          case measure => simp [intOf]; omega
      · obtain rfl : k = n := by omega
        go_wp2_with fail
        go_ret2
        rw [hf.out.1, hf.out.2]
        exact ⟨_, rfl, HO.out, HB.out⟩
end Go.Proofs.Ytciolimmfldpbaa
