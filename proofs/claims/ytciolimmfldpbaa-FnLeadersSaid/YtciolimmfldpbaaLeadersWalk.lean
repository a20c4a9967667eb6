/- For every drawn way and length the corners passed, the spot along and the counts agree with each other: the walk. Without conditions. -/
import Derived.Test.YtciolimmfldpbaaLeader
import Derived.Test.YtciolimmfldpbaaCorners
import Derived.Test.YtciolimmfldpbaaWayDraws
import Derived.Test.YtciolimmfldpbaaWayLength
import Derived.Test.YtciolimmfldpbaaWayLaw
import Derived.Test.YtciolimmfldpbaaHas
import Derived.Test.YtciolimmfldpbaaLeadersFn
import Derived.Test.YtciolimmfldpbaaLeadersCw
import Derived.Test.YtciolimmfldpbaaLeadersRest
import Derived.Test.YtciolimmfldpbaaCutFn
namespace Go.Proofs.Ytciolimmfldpbaa
open Go.RowKit
theorem RdB.kept {w W : World} {A : Option Addr} {n : Nat} (h : RdB w w.heap.size A n) (hb : Below w.heap.size w W) : RdB W W.heap.size A n := by
  intro hn
  obtain ⟨b, off, e, hlt, hc⟩ := h hn
  refine ⟨b, off, e, Nat.lt_of_lt_of_le hlt hb.size, fun j hj => ?_⟩
  obtain ⟨z, z0, z1, h2⟩ := hc j hj
  exact ⟨z, z0, z1, (hb.cell (p := ⟨b, off + j, none⟩) hlt).trans h2⟩
theorem neq_spots_no (x y : Int) : ∀ w, (binOp .neq 29 (Value.agg #[Value.int .i64 x, Value.int .i64 y]) (Value.agg #[Value.int .i64 x, Value.int .i64 y])).run Try.prog w = .ok (.bool false) w := by
  intro w
  go_simp
set_option maxRecDepth 100000 in
set_option maxHeartbeats 4000000 in
theorem leaders_walk (w : World) (A0 : Option Addr) (n0 c0 : Nat) (hr0 : RdB w w.heap.size A0 n0) (hm0 : n0 ≤ maxLen) (A1 : Option Addr) (n1 c1 : Nat) (hr1 : RdB w w.heap.size A1 n1) (hm1 : n1 ≤ maxLen) :
    Calls Try.prog 3 #[.slice A0 n0 c0, .slice A1 n1 c1] w fun e w' => e = .returned (.bool true) ∧ Below w.heap.size w w' := by
  unfold maxLen at hm0 hm1
  obtain ⟨tot, e0⟩ : ∃ z, IntKind.i64.wrap ((n0 : Int) + (n1 : Int)) = z := ⟨_, rfl⟩
  by_cases hbig : (1048576 : Int) < tot
  · go_enter Try.func3, Try.ntmps3
    go_wp2_with fail
    go_ret
    exact ⟨rfl, Below.refl _ _⟩
  · have hn0 : n0 ≤ 9223372036854775807 := by omega
    have hn1 : n1 ≤ 9223372036854775807 := by omega
    have H0 := Lib.hid hr0
    have H1 := Lib.hid hr1
    have B0 := Lib.hid (Below.refl w.heap.size w)
    clear hr0 hr1
    go_enter Try.func3, Try.ntmps3
    go_wp2_with fail
    refine (DrawCornersPassed_any A0 n0 c0 _ H0.out hn0).mono ?_
    rintro e w1 ⟨l, n, xs, t, rfl, ho, hk, ht, hb⟩
    replace B0 := Lib.hid (below_on B0.out hb)
    clear hb
    have Ol := Lib.hid (Own.of ho)
    have Rl := Lib.hid Ol.out.rd
    obtain ⟨kl1, kl2, kl3⟩ := hk
    have Sl := Lib.hid kl3
    have Bl := Lib.hid (Below.refl w1.heap.size w1)
    clear ho kl3
    obtain ⟨f0, gf0⟩ : ∃ z, slB n xs t = z := ⟨_, rfl⟩
    obtain ⟨f1, gf1⟩ : ∃ z, cpV n xs t = z := ⟨_, rfl⟩
    obtain ⟨f2, gf2⟩ : ∃ z, saX n xs t = z := ⟨_, rfl⟩
    obtain ⟨f3, gf3⟩ : ∃ z, saY n xs t = z := ⟨_, rfl⟩
    obtain ⟨f4, gf4⟩ : ∃ z, wlV n xs = z := ⟨_, rfl⟩
    obtain ⟨f5, gf5⟩ : ∃ z, wayB n xs = z := ⟨_, rfl⟩
    have P1 := (fun (B : Nat) (W : World) (h0 : Cap l) (h1 : Rd W B 2 l n xs) (h2 : B ≤ W.heap.size) (h3 : n ≤ 1099511627776) => CornersPassed_any l n B xs t W h0 h1 h2 h3)
    rw [gf1, gf0] at P1
    replace P1 := Lib.hid P1
    have P2 := (fun (B : Nat) (W : World) (h1 : Rd W B 2 l n xs) (h2 : B ≤ W.heap.size) (h3 : n ≤ 1099511627776) => specCornersPassed_any l n B xs t W  h1 h2 h3)
    rw [gf1, gf0] at P2
    replace P2 := Lib.hid P2
    have P3 := (fun (B : Nat) (W : World) (h1 : Rd W B 2 l n xs) (h2 : B ≤ W.heap.size) (h3 : n ≤ 1099511627776) => SpotAlong_any l n B xs t W  h1 h2 h3)
    rw [gf2, gf3, gf0] at P3
    replace P3 := Lib.hid P3
    have P4 := (fun (B : Nat) (W : World) (h1 : Rd W B 2 l n xs) (h2 : B ≤ W.heap.size) (h3 : n ≤ 1099511627776) => specSpotAlong_any l n B xs t W  h1 h2 h3)
    rw [gf2, gf3, gf0] at P4
    replace P4 := Lib.hid P4
    have P5 := (fun (B : Nat) (W : World) (h1 : Rd W B 2 l n xs) (h2 : B ≤ W.heap.size) (h3 : n ≤ 1099511627776) => WayLength_any l n B xs  W  h1 h2 h3)
    rw [gf4, gf5] at P5
    replace P5 := Lib.hid P5
    have P6 := (fun (B : Nat) (W : World) (h1 : Rd W B 2 l n xs) (h2 : B ≤ W.heap.size) (h3 : n ≤ 1099511627776) => specWayLength_any l n B xs  W  h1 h2 h3)
    rw [gf4, gf5] at P6
    replace P6 := Lib.hid P6
    have P7 := (fun (B : Nat) (W : World) (h1 : Rd W B 2 l n xs) (h2 : B ≤ W.heap.size) (h3 : n ≤ 1099511627776) => IsWay_any l n B xs  W  h1 h2 h3)
    rw [gf5] at P7
    replace P7 := Lib.hid P7
    replace gf0 := Lib.hid gf0
    replace gf1 := Lib.hid gf1
    replace gf2 := Lib.hid gf2
    replace gf3 := Lib.hid gf3
    replace gf4 := Lib.hid gf4
    replace gf5 := Lib.hid gf5
    go_wp2_with fail
    refine (P1.out _ _ Ol.out.cap (Rl.out.below Bl.out) Bl.out.size (by omega)).mono ?_
    rintro e w2 ⟨rfl, hb⟩
    replace B0 := Lib.hid (below_on B0.out hb)
    replace Bl := Lib.hid (below_on Bl.out hb)
    clear hb
    go_wp2_with fail
    refine (P2.out _ _ (Rl.out.below Bl.out) Bl.out.size (by omega)).mono ?_
    rintro e w3 ⟨rfl, hb⟩
    replace B0 := Lib.hid (below_on B0.out hb)
    replace Bl := Lib.hid (below_on Bl.out hb)
    clear hb
    go_wp2_with fail
    refine (P3.out _ _ (Rl.out.below Bl.out) Bl.out.size (by omega)).mono ?_
    rintro e w4 ⟨rfl, hb⟩
    replace B0 := Lib.hid (below_on B0.out hb)
    replace Bl := Lib.hid (below_on Bl.out hb)
    clear hb
    have sa := Lib.hid (Blk.new w4 29 #[.int .i64 (f2), .int .i64 (f3)])
    replace B0 := Lib.hid (below_new B0.out (.cells #[.int .i64 (f2), .int .i64 (f3)] 29))
    replace Bl := Lib.hid (below_new Bl.out (.cells #[.int .i64 (f2), .int .i64 (f3)] 29))
    have Ta := Lib.hid (Below.refl (w4.alloc (.cells #[.int .i64 (f2), .int .i64 (f3)] 29)).heap.size (w4.alloc (.cells #[.int .i64 (f2), .int .i64 (f3)] 29)))
    go_wp2_with fail
    refine (P4.out _ _ (Rl.out.below Bl.out) Bl.out.size (by omega)).mono ?_
    rintro e w5 ⟨rfl, hb⟩
    replace B0 := Lib.hid (below_on B0.out hb)
    replace Bl := Lib.hid (below_on Bl.out hb)
    replace Ta := Lib.hid (below_on Ta.out hb)
    clear hb
    have sb := Lib.hid (Blk.new w5 29 #[.int .i64 (f2), .int .i64 (f3)])
    replace B0 := Lib.hid (below_new B0.out (.cells #[.int .i64 (f2), .int .i64 (f3)] 29))
    replace Bl := Lib.hid (below_new Bl.out (.cells #[.int .i64 (f2), .int .i64 (f3)] 29))
    replace Ta := Lib.hid (below_new Ta.out (.cells #[.int .i64 (f2), .int .i64 (f3)] 29))
    have Tb := Lib.hid (Below.refl (w5.alloc (.cells #[.int .i64 (f2), .int .i64 (f3)] 29)).heap.size (w5.alloc (.cells #[.int .i64 (f2), .int .i64 (f3)] 29)))
    go_wp2_with fail
    refine (P5.out _ _ (Rl.out.below Bl.out) Bl.out.size (by omega)).mono ?_
    rintro e w6 ⟨rfl, hb⟩
    replace B0 := Lib.hid (below_on B0.out hb)
    replace Bl := Lib.hid (below_on Bl.out hb)
    replace Ta := Lib.hid (below_on Ta.out hb)
    replace Tb := Lib.hid (below_on Tb.out hb)
    clear hb
    go_wp2_with fail
    refine (P6.out _ _ (Rl.out.below Bl.out) Bl.out.size (by omega)).mono ?_
    rintro e w7 ⟨rfl, hb⟩
    replace B0 := Lib.hid (below_on B0.out hb)
    replace Bl := Lib.hid (below_on Bl.out hb)
    replace Ta := Lib.hid (below_on Ta.out hb)
    replace Tb := Lib.hid (below_on Tb.out hb)
    clear hb
    go_wp2_with fail
    refine (DrawLeaderAt_any A1 n1 c1 _ (RdB.kept H1.out B0.out) hn1).mono ?_
    rintro e w8 ⟨a, m, ys, st, co, rfl, ho, hk, hst, hb⟩
    replace B0 := Lib.hid (below_on B0.out hb)
    replace Bl := Lib.hid (below_on Bl.out hb)
    replace Ta := Lib.hid (below_on Ta.out hb)
    replace Tb := Lib.hid (below_on Tb.out hb)
    clear hb
    have Oa := Lib.hid (Own.of ho)
    have Ra := Lib.hid Oa.out.rd
    obtain ⟨ka1, ka2, ka3⟩ := hk
    have Sa := Lib.hid ka3
    have Ba := Lib.hid (Below.refl w8.heap.size w8)
    clear ho ka3
    obtain ⟨h0, gh0⟩ : ∃ z, laB m ys st co = z := ⟨_, rfl⟩
    obtain ⟨h1, gh1⟩ : ∃ z, laX m ys st co = z := ⟨_, rfl⟩
    obtain ⟨h2, gh2⟩ : ∃ z, laY m ys st co = z := ⟨_, rfl⟩
    obtain ⟨h3, gh3⟩ : ∃ z, cwB m ys st = z := ⟨_, rfl⟩
    obtain ⟨h4, gh4⟩ : ∃ z, cwV m ys st = z := ⟨_, rfl⟩
    have Q1 := (fun (B : Nat) (W : World) (h1 : Rd W B 2 a m ys) (h2 : B ≤ W.heap.size) (h3 : m ≤ 1099511627776) => LeaderAt_any a m B ys st co W  h1 h2 h3)
    rw [gh0, gh1, gh2] at Q1
    replace Q1 := Lib.hid Q1
    have Q2 := (fun (B : Nat) (W : World) (h1 : Rd W B 2 a m ys) (h2 : B ≤ W.heap.size) (h3 : m ≤ 1099511627776) => specLeaderAt_any a m B ys st co W  h1 h2 h3)
    rw [gh0, gh1, gh2] at Q2
    replace Q2 := Lib.hid Q2
    have Q3 := (fun (B : Nat) (W : World) (h1 : Rd W B 2 a m ys) (h2 : B ≤ W.heap.size) (h3 : m ≤ 1099511627776) => CountsToWalk_any a m B ys st W  h1 h2 h3)
    rw [gh3, gh4] at Q3
    replace Q3 := Lib.hid Q3
    have Q4 := (fun (B : Nat) (W : World) (h1 : Rd W B 2 a m ys) (h2 : B ≤ W.heap.size) (h3 : m ≤ 1099511627776) => specCountsToWalk_any a m B ys st W  h1 h2 h3)
    rw [gh3, gh4] at Q4
    replace Q4 := Lib.hid Q4
    replace gh0 := Lib.hid gh0
    replace gh1 := Lib.hid gh1
    replace gh2 := Lib.hid gh2
    replace gh3 := Lib.hid gh3
    replace gh4 := Lib.hid gh4
    go_wp2_with fail
    refine (Q1.out _ _ (Ra.out.below Ba.out) Ba.out.size (by omega)).mono ?_
    rintro e w9 ⟨rfl, hb⟩
    replace B0 := Lib.hid (below_on B0.out hb)
    replace Bl := Lib.hid (below_on Bl.out hb)
    replace Ta := Lib.hid (below_on Ta.out hb)
    replace Tb := Lib.hid (below_on Tb.out hb)
    replace Ba := Lib.hid (below_on Ba.out hb)
    clear hb
    have sc := Lib.hid (Blk.new w9 29 #[.int .i64 (h1), .int .i64 (h2)])
    replace B0 := Lib.hid (below_new B0.out (.cells #[.int .i64 (h1), .int .i64 (h2)] 29))
    replace Bl := Lib.hid (below_new Bl.out (.cells #[.int .i64 (h1), .int .i64 (h2)] 29))
    replace Ta := Lib.hid (below_new Ta.out (.cells #[.int .i64 (h1), .int .i64 (h2)] 29))
    replace Tb := Lib.hid (below_new Tb.out (.cells #[.int .i64 (h1), .int .i64 (h2)] 29))
    replace Ba := Lib.hid (below_new Ba.out (.cells #[.int .i64 (h1), .int .i64 (h2)] 29))
    have Tc := Lib.hid (Below.refl (w9.alloc (.cells #[.int .i64 (h1), .int .i64 (h2)] 29)).heap.size (w9.alloc (.cells #[.int .i64 (h1), .int .i64 (h2)] 29)))
    go_wp2_with fail
    refine (Q2.out _ _ (Ra.out.below Ba.out) Ba.out.size (by omega)).mono ?_
    rintro e w10 ⟨rfl, hb⟩
    replace B0 := Lib.hid (below_on B0.out hb)
    replace Bl := Lib.hid (below_on Bl.out hb)
    replace Ta := Lib.hid (below_on Ta.out hb)
    replace Tb := Lib.hid (below_on Tb.out hb)
    replace Ba := Lib.hid (below_on Ba.out hb)
    replace Tc := Lib.hid (below_on Tc.out hb)
    clear hb
    have sd := Lib.hid (Blk.new w10 29 #[.int .i64 (h1), .int .i64 (h2)])
    replace B0 := Lib.hid (below_new B0.out (.cells #[.int .i64 (h1), .int .i64 (h2)] 29))
    replace Bl := Lib.hid (below_new Bl.out (.cells #[.int .i64 (h1), .int .i64 (h2)] 29))
    replace Ta := Lib.hid (below_new Ta.out (.cells #[.int .i64 (h1), .int .i64 (h2)] 29))
    replace Tb := Lib.hid (below_new Tb.out (.cells #[.int .i64 (h1), .int .i64 (h2)] 29))
    replace Ba := Lib.hid (below_new Ba.out (.cells #[.int .i64 (h1), .int .i64 (h2)] 29))
    replace Tc := Lib.hid (below_new Tc.out (.cells #[.int .i64 (h1), .int .i64 (h2)] 29))
    have Td := Lib.hid (Below.refl (w10.alloc (.cells #[.int .i64 (h1), .int .i64 (h2)] 29)).heap.size (w10.alloc (.cells #[.int .i64 (h1), .int .i64 (h2)] 29)))
    go_wp2_with fail
    refine (Q3.out _ _ (Ra.out.below Ba.out) Ba.out.size (by omega)).mono ?_
    rintro e w11 ⟨rfl, hb⟩
    replace B0 := Lib.hid (below_on B0.out hb)
    replace Bl := Lib.hid (below_on Bl.out hb)
    replace Ta := Lib.hid (below_on Ta.out hb)
    replace Tb := Lib.hid (below_on Tb.out hb)
    replace Ba := Lib.hid (below_on Ba.out hb)
    replace Tc := Lib.hid (below_on Tc.out hb)
    replace Td := Lib.hid (below_on Td.out hb)
    clear hb
    go_wp2_with fail
    refine (Q4.out _ _ (Ra.out.below Ba.out) Ba.out.size (by omega)).mono ?_
    rintro e w12 ⟨rfl, hb⟩
    replace B0 := Lib.hid (below_on B0.out hb)
    replace Bl := Lib.hid (below_on Bl.out hb)
    replace Ta := Lib.hid (below_on Ta.out hb)
    replace Tb := Lib.hid (below_on Tb.out hb)
    replace Ba := Lib.hid (below_on Ba.out hb)
    replace Tc := Lib.hid (below_on Tc.out hb)
    replace Td := Lib.hid (below_on Td.out hb)
    clear hb
    go_wp2_with fail
    refine (DrawSpotAlong_any A1 n1 c1 _ (RdB.kept H1.out B0.out) hn1).mono ?_
    rintro e w13 ⟨b, p, zs, at_, rfl, ho, hk, hat, hb⟩
    replace B0 := Lib.hid (below_on B0.out hb)
    replace Bl := Lib.hid (below_on Bl.out hb)
    replace Ta := Lib.hid (below_on Ta.out hb)
    replace Tb := Lib.hid (below_on Tb.out hb)
    replace Ba := Lib.hid (below_on Ba.out hb)
    replace Tc := Lib.hid (below_on Tc.out hb)
    replace Td := Lib.hid (below_on Td.out hb)
    clear hb
    have Ob := Lib.hid (Own.of ho)
    have Rb := Lib.hid Ob.out.rd
    obtain ⟨kb1, kb2, kb3⟩ := hk
    have Sb := Lib.hid kb3
    have Bb := Lib.hid (Below.refl w13.heap.size w13)
    clear ho kb3
    obtain ⟨i0, gi0⟩ : ∃ z, slB p zs at_ = z := ⟨_, rfl⟩
    obtain ⟨i1, gi1⟩ : ∃ z, saX p zs at_ = z := ⟨_, rfl⟩
    obtain ⟨i2, gi2⟩ : ∃ z, saY p zs at_ = z := ⟨_, rfl⟩
    have U1 := (fun (B : Nat) (W : World) (h1 : Rd W B 2 b p zs) (h2 : B ≤ W.heap.size) (h3 : p ≤ 1099511627776) => SpotAlong_any b p B zs at_ W  h1 h2 h3)
    rw [gi0, gi1, gi2] at U1
    replace U1 := Lib.hid U1
    have U2 := (fun (B : Nat) (W : World) (h1 : Rd W B 2 b p zs) (h2 : B ≤ W.heap.size) (h3 : p ≤ 1099511627776) => specSpotAlong_any b p B zs at_ W  h1 h2 h3)
    rw [gi0, gi1, gi2] at U2
    replace U2 := Lib.hid U2
    replace gi0 := Lib.hid gi0
    replace gi1 := Lib.hid gi1
    replace gi2 := Lib.hid gi2
    go_wp2_with fail
    refine (U1.out _ _ (Rb.out.below Bb.out) Bb.out.size (by omega)).mono ?_
    rintro e w14 ⟨rfl, hb⟩
    replace B0 := Lib.hid (below_on B0.out hb)
    replace Bl := Lib.hid (below_on Bl.out hb)
    replace Ta := Lib.hid (below_on Ta.out hb)
    replace Tb := Lib.hid (below_on Tb.out hb)
    replace Ba := Lib.hid (below_on Ba.out hb)
    replace Tc := Lib.hid (below_on Tc.out hb)
    replace Td := Lib.hid (below_on Td.out hb)
    replace Bb := Lib.hid (below_on Bb.out hb)
    clear hb
    have se := Lib.hid (Blk.new w14 29 #[.int .i64 (i1), .int .i64 (i2)])
    replace B0 := Lib.hid (below_new B0.out (.cells #[.int .i64 (i1), .int .i64 (i2)] 29))
    replace Bl := Lib.hid (below_new Bl.out (.cells #[.int .i64 (i1), .int .i64 (i2)] 29))
    replace Ta := Lib.hid (below_new Ta.out (.cells #[.int .i64 (i1), .int .i64 (i2)] 29))
    replace Tb := Lib.hid (below_new Tb.out (.cells #[.int .i64 (i1), .int .i64 (i2)] 29))
    replace Ba := Lib.hid (below_new Ba.out (.cells #[.int .i64 (i1), .int .i64 (i2)] 29))
    replace Tc := Lib.hid (below_new Tc.out (.cells #[.int .i64 (i1), .int .i64 (i2)] 29))
    replace Td := Lib.hid (below_new Td.out (.cells #[.int .i64 (i1), .int .i64 (i2)] 29))
    replace Bb := Lib.hid (below_new Bb.out (.cells #[.int .i64 (i1), .int .i64 (i2)] 29))
    have Te := Lib.hid (Below.refl (w14.alloc (.cells #[.int .i64 (i1), .int .i64 (i2)] 29)).heap.size (w14.alloc (.cells #[.int .i64 (i1), .int .i64 (i2)] 29)))
    go_wp2_with fail
    refine (U2.out _ _ (Rb.out.below Bb.out) Bb.out.size (by omega)).mono ?_
    rintro e w15 ⟨rfl, hb⟩
    replace B0 := Lib.hid (below_on B0.out hb)
    replace Bl := Lib.hid (below_on Bl.out hb)
    replace Ta := Lib.hid (below_on Ta.out hb)
    replace Tb := Lib.hid (below_on Tb.out hb)
    replace Ba := Lib.hid (below_on Ba.out hb)
    replace Tc := Lib.hid (below_on Tc.out hb)
    replace Td := Lib.hid (below_on Td.out hb)
    replace Bb := Lib.hid (below_on Bb.out hb)
    replace Te := Lib.hid (below_on Te.out hb)
    clear hb
    have sf := Lib.hid (Blk.new w15 29 #[.int .i64 (i1), .int .i64 (i2)])
    replace B0 := Lib.hid (below_new B0.out (.cells #[.int .i64 (i1), .int .i64 (i2)] 29))
    replace Bl := Lib.hid (below_new Bl.out (.cells #[.int .i64 (i1), .int .i64 (i2)] 29))
    replace Ta := Lib.hid (below_new Ta.out (.cells #[.int .i64 (i1), .int .i64 (i2)] 29))
    replace Tb := Lib.hid (below_new Tb.out (.cells #[.int .i64 (i1), .int .i64 (i2)] 29))
    replace Ba := Lib.hid (below_new Ba.out (.cells #[.int .i64 (i1), .int .i64 (i2)] 29))
    replace Tc := Lib.hid (below_new Tc.out (.cells #[.int .i64 (i1), .int .i64 (i2)] 29))
    replace Td := Lib.hid (below_new Td.out (.cells #[.int .i64 (i1), .int .i64 (i2)] 29))
    replace Bb := Lib.hid (below_new Bb.out (.cells #[.int .i64 (i1), .int .i64 (i2)] 29))
    replace Te := Lib.hid (below_new Te.out (.cells #[.int .i64 (i1), .int .i64 (i2)] 29))
    have Tf := Lib.hid (Below.refl (w15.alloc (.cells #[.int .i64 (i1), .int .i64 (i2)] 29)).heap.size (w15.alloc (.cells #[.int .i64 (i1), .int .i64 (i2)] 29)))
    go_wp2_with fail
    refine (DrawCountsToWalk_any A1 n1 c1 _ (RdB.kept H1.out B0.out) hn1).mono ?_
    rintro e w16 ⟨v, q, vs, sz, rfl, ho, hk, hsz, hb⟩
    replace B0 := Lib.hid (below_on B0.out hb)
    replace Bl := Lib.hid (below_on Bl.out hb)
    replace Ta := Lib.hid (below_on Ta.out hb)
    replace Tb := Lib.hid (below_on Tb.out hb)
    replace Ba := Lib.hid (below_on Ba.out hb)
    replace Tc := Lib.hid (below_on Tc.out hb)
    replace Td := Lib.hid (below_on Td.out hb)
    replace Bb := Lib.hid (below_on Bb.out hb)
    replace Te := Lib.hid (below_on Te.out hb)
    replace Tf := Lib.hid (below_on Tf.out hb)
    clear hb
    have Ov := Lib.hid (Own.of ho)
    have Rv := Lib.hid Ov.out.rd
    obtain ⟨kv1, kv2, kv3⟩ := hk
    have Sv := Lib.hid kv3
    have Bv := Lib.hid (Below.refl w16.heap.size w16)
    clear ho kv3
    obtain ⟨j0, gj0⟩ : ∃ z, cwB q vs sz = z := ⟨_, rfl⟩
    obtain ⟨j1, gj1⟩ : ∃ z, cwV q vs sz = z := ⟨_, rfl⟩
    have V1 := (fun (B : Nat) (W : World) (h1 : Rd W B 2 v q vs) (h2 : B ≤ W.heap.size) (h3 : q ≤ 1099511627776) => CountsToWalk_any v q B vs sz W  h1 h2 h3)
    rw [gj0, gj1] at V1
    replace V1 := Lib.hid V1
    have V2 := (fun (B : Nat) (W : World) (h1 : Rd W B 2 v q vs) (h2 : B ≤ W.heap.size) (h3 : q ≤ 1099511627776) => specCountsToWalk_any v q B vs sz W  h1 h2 h3)
    rw [gj0, gj1] at V2
    replace V2 := Lib.hid V2
    replace gj0 := Lib.hid gj0
    replace gj1 := Lib.hid gj1
    go_wp2_with fail
    refine (V1.out _ _ (Rv.out.below Bv.out) Bv.out.size (by omega)).mono ?_
    rintro e w17 ⟨rfl, hb⟩
    replace B0 := Lib.hid (below_on B0.out hb)
    replace Bl := Lib.hid (below_on Bl.out hb)
    replace Ta := Lib.hid (below_on Ta.out hb)
    replace Tb := Lib.hid (below_on Tb.out hb)
    replace Ba := Lib.hid (below_on Ba.out hb)
    replace Tc := Lib.hid (below_on Tc.out hb)
    replace Td := Lib.hid (below_on Td.out hb)
    replace Bb := Lib.hid (below_on Bb.out hb)
    replace Te := Lib.hid (below_on Te.out hb)
    replace Tf := Lib.hid (below_on Tf.out hb)
    replace Bv := Lib.hid (below_on Bv.out hb)
    clear hb
    go_wp2_with fail
    refine (V2.out _ _ (Rv.out.below Bv.out) Bv.out.size (by omega)).mono ?_
    rintro e w18 ⟨rfl, hb⟩
    replace B0 := Lib.hid (below_on B0.out hb)
    replace Bl := Lib.hid (below_on Bl.out hb)
    replace Ta := Lib.hid (below_on Ta.out hb)
    replace Tb := Lib.hid (below_on Tb.out hb)
    replace Ba := Lib.hid (below_on Ba.out hb)
    replace Tc := Lib.hid (below_on Tc.out hb)
    replace Td := Lib.hid (below_on Td.out hb)
    replace Bb := Lib.hid (below_on Bb.out hb)
    replace Te := Lib.hid (below_on Te.out hb)
    replace Tf := Lib.hid (below_on Tf.out hb)
    replace Bv := Lib.hid (below_on Bv.out hb)
    clear hb
    obtain ⟨max, may⟩ := (sa.out.on Ta.out).c2
    obtain ⟨mbx, mby⟩ := (sb.out.on Tb.out).c2
    obtain ⟨mcx, mcy⟩ := (sc.out.on Tc.out).c2
    obtain ⟨mdx, mdy⟩ := (sd.out.on Td.out).c2
    obtain ⟨mex, mey⟩ := (se.out.on Te.out).c2
    obtain ⟨mfx, mfy⟩ := (sf.out.on Tf.out).c2
    have nqa := neq_spots_no f2 f3
    have nqc := neq_spots_no h1 h2
    have nqe := neq_spots_no i1 i2
    have nbf0 : (f0 != f0) = false := by simp
    have nbf1 : (f1 != f1) = false := by simp
    have nbf4 : (f4 != f4) = false := by simp
    have nbf5 : (f5 != f5) = false := by simp
    have nbh0 : (h0 != h0) = false := by simp
    have nbh3 : (h3 != h3) = false := by simp
    have nbh4 : (h4 != h4) = false := by simp
    have nbi0 : (i0 != i0) = false := by simp
    have nbj0 : (j0 != j0) = false := by simp
    have nbj1 : (j1 != j1) = false := by simp
    have hyes : f0 = true → f5 = true := by rw [← gf0.out, ← gf5.out]; unfold slB; simp; intro h _; exact h
    have B9 := Lib.hid (Below.refl w18.heap.size w18)
    go_upto_region 21 with (fail)
    refine wp_cut (fun a' wk => ∃ f : Nat → Value, (Below w18.heap.size w18 wk) ∧ a' = ⟨#[f 0, f 1, f 2, f 3, .bool false, l, .int .i64 t, f 7, .bool f0, .int .i64 f1, f 10, f 11, f 12, .pointer (some ⟨w5.heap.size, 0, none⟩), f 14, f 15, f 16, .int .i64 f4, f 18, a, .int .i64 st, .int .i64 co, f 22, .bool h0, .pointer (some ⟨w10.heap.size, 0, none⟩), f 25, .int .i64 h4, .bool h3, .int .i64 h4, f 29, f 30, f 31, f 32, f 33, f 34, f 35, f 36, f 37, f 38, f 39, f 40, f 41, f 42, f 43, f 44, f 45, f 46, f 47, f 48, f 49, f 50, f 51, f 52, f 53, f 54, f 55, f 56, f 57, f 58, f 59, f 60, f 61, f 62, f 63, f 64, f 65, f 66, f 67, f 68, f 69, f 70, f 71, f 72, f 73, f 74, f 75, f 76, f 77, f 78, f 79, f 80, f 81, f 82, f 83, f 84, f 85, f 86, f 87, f 88, f 89, f 90, f 91, f 92, f 93, f 94, f 95, f 96, f 97, f 98, f 99, f 100, f 101, f 102, f 103, f 104, f 105, f 106, f 107, f 108, f 109, f 110, f 111, f 112, f 113, f 114, f 115, f 116, f 117, f 118, f 119, f 120, f 121, f 122, f 123, f 124, f 125, f 126, f 127, f 128, f 129, f 130, f 131, f 132, f 133, f 134, f 135, f 136, f 137, f 138, f 139, f 140, f 141, f 142, f 143, f 144, f 145, f 146, f 147, f 148, f 149, f 150, f 151, f 152, f 153, f 154, f 155, f 156, f 157, f 158, f 159, f 160, f 161, f 162, f 163, f 164, f 165, f 166, f 167, f 168, f 169, f 170, f 171, f 172, f 173, f 174, f 175, f 176, f 177, f 178, f 179, f 180, f 181, f 182, f 183, f 184, f 185, f 186, f 187, f 188, f 189, f 190, f 191, f 192, f 193, f 194, f 195, f 196, f 197, f 198, f 199, f 200, f 201, f 202, f 203, f 204, f 205, f 206, f 207, f 208, f 209, f 210, f 211, f 212, f 213, f 214, f 215, f 216, f 217, f 218, f 219, f 220, f 221, f 222, f 223, f 224, f 225, f 226, f 227, f 228, f 229, f 230, f 231, f 232, f 233, f 234, f 235, f 236, f 237, f 238, f 239, f 240, f 241, f 242, f 243, f 244, f 245, .bool false, f 247, f 248, f 249, f 250, f 251, f 252, f 253, f 254, f 255, f 256, f 257, f 258, f 259, f 260, f 261, f 262, f 263, f 264, f 265, f 266, f 267, f 268, f 269, f 270, f 271, f 272, f 273, f 274, f 275, f 276, f 277, f 278, f 279, f 280, f 281, f 282, f 283, f 284, f 285, f 286, f 287, f 288, f 289, f 290, f 291, f 292, f 293, f 294, f 295, f 296, f 297, f 298, f 299, f 300, f 301, f 302, f 303, f 304, f 305, f 306, f 307, f 308, f 309, f 310, f 311, f 312, f 313, f 314, f 315, f 316, f 317, f 318, f 319, f 320, f 321, f 322, f 323, f 324, f 325, f 326, f 327, f 328, f 329, f 330, f 331, f 332, f 333, f 334, f 335, f 336, f 337, f 338, f 339, f 340, f 341, f 342, f 343, f 344, f 345, f 346, f 347, f 348, f 349, f 350, f 351, f 352, f 353, f 354, f 355, f 356, f 357, f 358, f 359, f 360, f 361, f 362, f 363, f 364, f 365, f 366, f 367, f 368, f 369, f 370, f 371, f 372, f 373, f 374, f 375, f 376, f 377, f 378, f 379, f 380, f 381, f 382, f 383, f 384, f 385, f 386], []⟩) ?rest ?first
    case first =>
      intro _ _ _ _
      cases f0 with
      | false =>
        clear hyes
        go_wp2_with fail
        refine (P7.out _ _ (Rl.out.below Bl.out) Bl.out.size (by omega)).mono ?_
        rintro e w19 ⟨rfl, hb⟩
        replace B9 := Lib.hid hb
        clear hb
        as_aux_lemma =>
        go_wp2_with fail
        refine Met.intro ?_
        go_step
        exact meet_at B9.out (by kernel_rfl)
      | true =>
        obtain rfl := hyes rfl
        clear hyes
        go_wp2_with fail
        refine (P7.out _ _ (Rl.out.below Bl.out) Bl.out.size (by omega)).mono ?_
        rintro e w19 ⟨rfl, hb⟩
        replace B9 := Lib.hid hb
        clear hb
        as_aux_lemma =>
        go_wp2_with fail
        refine Met.intro ?_
        go_step
        exact meet_at B9.out (by kernel_rfl)
    case rest =>
    rintro _ wc ⟨f, hb, rfl⟩
    replace B0 := Lib.hid (below_on B0.out hb)
    replace Bl := Lib.hid (below_on Bl.out hb)
    replace Ba := Lib.hid (below_on Ba.out hb)
    replace Td := Lib.hid (below_on Td.out hb)
    replace Tb := Lib.hid (below_on Tb.out hb)
    clear hb B9 P1 P2 P3 P4 P5 P6 P7 Q1 Q2 Q3 Q4 U1 U2 V1 V2 hyes
    have B9 := Lib.hid (Below.refl wc.heap.size wc)
    go_upto_if 247 with (fail)
    refine wp_cut (fun a' wk => ∃ f : Nat → Value, (Below wc.heap.size wc wk) ∧ a' = ⟨#[f 0, f 1, f 2, f 3, .bool false, l, .int .i64 t, f 7, .bool f0, .int .i64 f1, f 10, f 11, f 12, .pointer (some ⟨w5.heap.size, 0, none⟩), f 14, f 15, f 16, .int .i64 f4, f 18, f 19, f 20, f 21, f 22, f 23, f 24, f 25, f 26, f 27, f 28, f 29, f 30, f 31, f 32, f 33, f 34, f 35, f 36, f 37, f 38, f 39, f 40, f 41, f 42, f 43, f 44, f 45, f 46, f 47, f 48, f 49, f 50, f 51, f 52, f 53, f 54, f 55, f 56, f 57, f 58, f 59, f 60, f 61, f 62, f 63, f 64, f 65, f 66, f 67, f 68, f 69, f 70, f 71, f 72, f 73, f 74, f 75, f 76, f 77, f 78, f 79, f 80, f 81, f 82, f 83, f 84, f 85, f 86, f 87, f 88, f 89, f 90, f 91, f 92, f 93, f 94, f 95, f 96, f 97, f 98, f 99, f 100, f 101, f 102, f 103, f 104, f 105, f 106, f 107, f 108, f 109, f 110, f 111, f 112, f 113, f 114, f 115, f 116, f 117, f 118, f 119, f 120, f 121, f 122, f 123, f 124, f 125, f 126, f 127, f 128, f 129, f 130, f 131, f 132, f 133, f 134, f 135, f 136, f 137, f 138, f 139, f 140, f 141, f 142, f 143, f 144, f 145, f 146, f 147, f 148, f 149, f 150, f 151, f 152, f 153, f 154, f 155, f 156, f 157, f 158, f 159, f 160, f 161, f 162, f 163, f 164, f 165, f 166, f 167, f 168, f 169, f 170, f 171, f 172, f 173, f 174, f 175, f 176, f 177, f 178, f 179, f 180, f 181, f 182, f 183, f 184, f 185, f 186, f 187, f 188, f 189, f 190, f 191, f 192, f 193, f 194, f 195, f 196, f 197, f 198, f 199, f 200, f 201, f 202, f 203, f 204, f 205, f 206, f 207, f 208, f 209, f 210, f 211, f 212, f 213, f 214, f 215, f 216, f 217, f 218, f 219, f 220, f 221, f 222, f 223, f 224, f 225, f 226, f 227, f 228, f 229, f 230, f 231, f 232, f 233, f 234, f 235, f 236, f 237, f 238, f 239, f 240, f 241, f 242, f 243, f 244, f 245, f 246, f 247, f 248, f 249, f 250, f 251, f 252, f 253, f 254, f 255, f 256, f 257, f 258, f 259, f 260, f 261, f 262, f 263, f 264, f 265, f 266, f 267, f 268, f 269, f 270, f 271, f 272, f 273, f 274, f 275, f 276, f 277, f 278, f 279, f 280, f 281, f 282, f 283, f 284, f 285, f 286, f 287, f 288, f 289, f 290, f 291, f 292, f 293, f 294, f 295, f 296, f 297, f 298, f 299, f 300, f 301, f 302, f 303, f 304, f 305, f 306, f 307, f 308, f 309, f 310, f 311, f 312, f 313, f 314, f 315, f 316, f 317, f 318, f 319, f 320, f 321, f 322, f 323, f 324, f 325, f 326, f 327, f 328, f 329, f 330, f 331, f 332, f 333, f 334, f 335, f 336, f 337, f 338, f 339, f 340, f 341, f 342, f 343, f 344, f 345, f 346, f 347, f 348, f 349, f 350, f 351, f 352, f 353, f 354, f 355, f 356, f 357, f 358, f 359, f 360, f 361, f 362, f 363, f 364, f 365, f 366, f 367, f 368, f 369, f 370, f 371, f 372, f 373, f 374, f 375, f 376, f 377, f 378, f 379, f 380, f 381, f 382, f 383, f 384, f 385, f 386], []⟩) ?rest2 ?first2
    case first2 =>
      intro _ _ _ _
      cases h3 with
      | false =>
        as_aux_lemma =>
        go_wp2_with fail
        refine Met.intro ?_
        go_step
        exact meet_at B9.out (by kernel_rfl)
      | true =>
        as_aux_lemma =>
        obtain ⟨ll, gll⟩ : ∃ z, lenTo ys (m - 1) = z := ⟨_, rfl⟩
        obtain ⟨ex, gex⟩ : ∃ z, X ys (m - 1) = z := ⟨_, rfl⟩
        obtain ⟨ey, gey⟩ : ∃ z, Y ys (m - 1) = z := ⟨_, rfl⟩
        obtain ⟨⟨le1, le2, le3⟩, ⟨hwl, hwa⟩, ⟨hm9, hm8, hm7⟩, F1, F2, F3⟩ := seven_law gh3.out Sa.out gh4.out gll
        have Q5 := fun (B : Nat) (W : World) (h1 : Rd W B 2 a m ys) (h2 : B ≤ W.heap.size) => LeaderAt_any a m B ys st h4 W h1 h2 hm9
        have Q6 := fun (B : Nat) (W : World) (h1 : Rd W B 2 a m ys) (h2 : B ≤ W.heap.size) => WayLength_any a m B ys W h1 h2 hm9
        rw [le1, le2, le3, gex, gey] at Q5
        rw [hwl, hwa] at Q6
        replace Q5 := Lib.hid Q5
        replace Q6 := Lib.hid Q6
        replace F1 := Lib.hid F1
        replace F2 := Lib.hid F2
        replace F3 := Lib.hid F3
        replace gex := Lib.hid gex
        replace gey := Lib.hid gey
        replace hm8 := Lib.hid hm8
        replace hm7 := Lib.hid hm7
        clear hwl hwa le1 le2 le3 gll hm9
        go_wp2_with fail
        refine (Q5.out _ _ (Ra.out.below Ba.out) Ba.out.size).mono ?_
        rintro e w20 ⟨rfl, hb⟩
        replace B9 := Lib.hid (below_on B9.out hb)
        replace Ba := Lib.hid (below_on Ba.out hb)
        replace Td := Lib.hid (below_on Td.out hb)
        clear hb
        have sg := Lib.hid (Blk.new w20 29 #[.int .i64 ex, .int .i64 ey])
        replace B9 := Lib.hid (below_new B9.out (.cells #[.int .i64 ex, .int .i64 ey] 29))
        replace Ba := Lib.hid (below_new Ba.out (.cells #[.int .i64 ex, .int .i64 ey] 29))
        replace Td := Lib.hid (below_new Td.out (.cells #[.int .i64 ex, .int .i64 ey] 29))
        go_wp2_with fail
        refine (Q6.out _ _ (Ra.out.below Ba.out) Ba.out.size).mono ?_
        rintro e w21 ⟨rfl, hb⟩
        replace B9 := Lib.hid (below_on B9.out hb)
        replace Ba := Lib.hid (below_on Ba.out hb)
        replace Td := Lib.hid (below_on Td.out hb)
        replace sg := Lib.hid (sg.out.on hb)
        clear hb
        obtain ⟨mgx, mgy⟩ := sg.out.c2
        obtain ⟨ndx, ndy⟩ := (sd.out.on Td.out).c2
        obtain ⟨Aa, ca, rfl⟩ := Ra.out.form
        obtain ⟨ba, oa, rfl, hba, hca⟩ := (Ra.out.below Ba.out).spot hm8.out
        obtain ⟨ax, ay⟩ := hca (m - 1) hm7.out
        rw [gex.out] at ax
        rw [gey.out] at ay
        clear hca
        obtain ⟨i0, i1, i2, i3⟩ := F1.out
        obtain ⟨d1, d2, d3⟩ := F2.out
        obtain ⟨u3, u4, u5⟩ := F3.out
        have nqg := neq_spots_no ex ey
        have BC := Lib.hid (Below.refl w21.heap.size w21)
        go_upto_region 26 with (fail)
        refine wp_cut (fun a' wk => ∃ f : Nat → Value, (Below w21.heap.size w21 wk) ∧ a' = ⟨#[f 0, f 1, f 2, f 3, .bool false, l, .int .i64 t, f 7, .bool f0, .int .i64 f1, f 10, f 11, f 12, .pointer (some ⟨w5.heap.size, 0, none⟩), f 14, f 15, f 16, .int .i64 f4, f 18, f 19, f 20, .int .i64 co, f 22, .bool h0, .pointer (some ⟨w10.heap.size, 0, none⟩), f 25, f 26, f 27, .int .i64 h4, f 29, f 30, f 31, f 32, f 33, f 34, f 35, f 36, f 37, f 38, f 39, f 40, f 41, .pointer (some ⟨w20.heap.size, 0, none⟩), f 43, f 44, f 45, f 46, f 47, f 48, f 49, f 50, f 51, f 52, f 53, f 54, f 55, f 56, f 57, f 58, f 59, f 60, f 61, f 62, f 63, f 64, f 65, f 66, f 67, f 68, f 69, f 70, f 71, f 72, f 73, f 74, f 75, f 76, f 77, f 78, f 79, f 80, f 81, f 82, f 83, f 84, f 85, f 86, f 87, f 88, f 89, f 90, f 91, f 92, f 93, f 94, f 95, f 96, f 97, f 98, f 99, f 100, f 101, f 102, f 103, f 104, f 105, f 106, f 107, f 108, f 109, f 110, f 111, f 112, f 113, f 114, f 115, f 116, f 117, f 118, f 119, f 120, f 121, f 122, f 123, f 124, f 125, f 126, f 127, f 128, f 129, f 130, f 131, f 132, f 133, f 134, f 135, f 136, f 137, f 138, f 139, f 140, f 141, f 142, f 143, f 144, f 145, f 146, f 147, f 148, f 149, f 150, f 151, f 152, f 153, f 154, f 155, f 156, f 157, f 158, f 159, f 160, f 161, f 162, f 163, f 164, f 165, f 166, f 167, f 168, f 169, f 170, f 171, f 172, f 173, f 174, f 175, f 176, f 177, f 178, f 179, f 180, f 181, f 182, f 183, f 184, f 185, f 186, f 187, f 188, f 189, f 190, f 191, f 192, f 193, f 194, f 195, f 196, f 197, f 198, f 199, f 200, f 201, f 202, f 203, f 204, f 205, f 206, f 207, f 208, f 209, f 210, f 211, f 212, f 213, f 214, f 215, f 216, f 217, f 218, f 219, f 220, f 221, f 222, f 223, f 224, f 225, f 226, f 227, f 228, f 229, f 230, f 231, f 232, f 233, f 234, f 235, f 236, f 237, f 238, f 239, f 240, f 241, f 242, f 243, f 244, f 245, f 246, f 247, f 248, f 249, f 250, f 251, f 252, f 253, f 254, f 255, f 256, f 257, f 258, f 259, f 260, f 261, f 262, f 263, f 264, f 265, f 266, f 267, f 268, f 269, f 270, f 271, f 272, f 273, f 274, f 275, f 276, f 277, f 278, f 279, f 280, f 281, f 282, f 283, f 284, f 285, f 286, f 287, f 288, f 289, f 290, f 291, f 292, f 293, .bool false, f 295, f 296, f 297, f 298, f 299, f 300, f 301, f 302, f 303, f 304, f 305, f 306, f 307, f 308, f 309, f 310, f 311, f 312, f 313, f 314, f 315, f 316, f 317, f 318, f 319, f 320, f 321, f 322, f 323, f 324, f 325, f 326, f 327, f 328, f 329, f 330, f 331, f 332, f 333, f 334, f 335, f 336, f 337, f 338, f 339, f 340, f 341, f 342, f 343, f 344, f 345, f 346, f 347, f 348, f 349, f 350, f 351, f 352, f 353, f 354, f 355, f 356, f 357, f 358, f 359, f 360, f 361, f 362, f 363, f 364, f 365, f 366, f 367, f 368, f 369, f 370, f 371, f 372, f 373, f 374, f 375, f 376, f 377, f 378, f 379, f 380, f 381, f 382, f 383, f 384, f 385, f 386], []⟩) ?restM ?firstM
        case firstM =>
          intro _ _ _ _
          as_aux_lemma =>
          go_quiet (fail)
          go_wp2_with fail
          refine Met.intro ?_
          go_step
          exact meet_at (by first | exact BC.out | exact below_drewN BC.out _) (by kernel_rfl)
        case restM =>
        rintro _ we ⟨f, hb, rfl⟩
        replace B9 := Lib.hid (below_on B9.out hb)
        have ngx := cell_on hb mgx
        have ngy := cell_on hb mgy
        have nex := cell_on hb ndx
        have ney := cell_on hb ndy
        clear hb BC mgx mgy ndx ndy d1 d2 d3 u3 u4 u5 i0 i1 i2 i3 ax ay
        have BC := Lib.hid (Below.refl we.heap.size we)
        go_upto_region 28 with (fail)
        refine wp_cut (fun a' wk => ∃ f : Nat → Value, (Below we.heap.size we wk) ∧ a' = ⟨#[f 0, f 1, f 2, f 3, .bool false, l, .int .i64 t, f 7, .bool f0, .int .i64 f1, f 10, f 11, f 12, .pointer (some ⟨w5.heap.size, 0, none⟩), f 14, f 15, f 16, .int .i64 f4, f 18, f 19, f 20, f 21, f 22, f 23, f 24, f 25, f 26, f 27, f 28, f 29, f 30, f 31, f 32, f 33, f 34, f 35, f 36, f 37, f 38, f 39, f 40, f 41, f 42, f 43, f 44, f 45, f 46, f 47, f 48, f 49, f 50, f 51, f 52, f 53, f 54, f 55, f 56, f 57, f 58, f 59, f 60, f 61, f 62, f 63, f 64, f 65, f 66, f 67, f 68, f 69, f 70, f 71, f 72, f 73, f 74, f 75, f 76, f 77, f 78, f 79, f 80, f 81, f 82, f 83, f 84, f 85, f 86, f 87, f 88, f 89, f 90, f 91, f 92, f 93, f 94, f 95, f 96, f 97, f 98, f 99, f 100, f 101, f 102, f 103, f 104, f 105, f 106, f 107, f 108, f 109, f 110, f 111, f 112, f 113, f 114, f 115, f 116, f 117, f 118, f 119, f 120, f 121, f 122, f 123, f 124, f 125, f 126, f 127, f 128, f 129, f 130, f 131, f 132, f 133, f 134, f 135, f 136, f 137, f 138, f 139, f 140, f 141, f 142, f 143, f 144, f 145, f 146, f 147, f 148, f 149, f 150, f 151, f 152, f 153, f 154, f 155, f 156, f 157, f 158, f 159, f 160, f 161, f 162, f 163, f 164, f 165, f 166, f 167, f 168, f 169, f 170, f 171, f 172, f 173, f 174, f 175, f 176, f 177, f 178, f 179, f 180, f 181, f 182, f 183, f 184, f 185, f 186, f 187, f 188, f 189, f 190, f 191, f 192, f 193, f 194, f 195, f 196, f 197, f 198, f 199, f 200, f 201, f 202, f 203, f 204, f 205, f 206, f 207, f 208, f 209, f 210, f 211, f 212, f 213, f 214, f 215, f 216, f 217, f 218, f 219, f 220, f 221, f 222, f 223, f 224, f 225, f 226, f 227, f 228, f 229, f 230, f 231, f 232, f 233, f 234, f 235, f 236, f 237, f 238, f 239, f 240, f 241, f 242, f 243, f 244, f 245, f 246, f 247, f 248, f 249, f 250, f 251, f 252, f 253, f 254, f 255, f 256, f 257, f 258, f 259, f 260, f 261, f 262, f 263, f 264, f 265, f 266, f 267, f 268, f 269, f 270, f 271, f 272, f 273, f 274, f 275, f 276, f 277, f 278, f 279, f 280, f 281, f 282, f 283, f 284, f 285, f 286, f 287, f 288, f 289, f 290, f 291, f 292, f 293, f 294, f 295, f 296, f 297, f 298, f 299, f 300, f 301, f 302, f 303, f 304, .bool false, f 306, f 307, f 308, f 309, f 310, f 311, f 312, f 313, f 314, f 315, f 316, f 317, f 318, f 319, f 320, f 321, f 322, f 323, f 324, f 325, f 326, f 327, f 328, f 329, f 330, f 331, f 332, f 333, f 334, f 335, f 336, f 337, f 338, f 339, f 340, f 341, f 342, f 343, f 344, f 345, f 346, f 347, f 348, f 349, f 350, f 351, f 352, f 353, f 354, f 355, f 356, f 357, f 358, f 359, f 360, f 361, f 362, f 363, f 364, f 365, f 366, f 367, f 368, f 369, f 370, f 371, f 372, f 373, f 374, f 375, f 376, f 377, f 378, f 379, f 380, f 381, f 382, f 383, f 384, f 385, f 386], []⟩) ?restN ?firstN
        case firstN =>
          intro _ _ _ _
          cases h0 with
          | false =>
            as_aux_lemma =>
            go_wp2_with fail
            refine Met.intro ?_
            go_step
            exact meet_at (by first | exact BC.out | exact below_drewN BC.out _) (by kernel_rfl)
          | true =>
            by_cases hge : h4 ≤ co
            · have dg : decide (h4 ≤ co) = true := decide_eq_true hge
              have hco : co ≤ 10000 := by have := gh0.out; simp only [laB, Bool.and_eq_true] at this; exact (inB_yes this.2).2
              obtain ⟨_, le2, le3⟩ := la_end (c := co) gh3.out Sa.out (by rw [gh4.out]; exact hge) hco
              rw [gh1.out, gex.out] at le2
              rw [gh2.out, gey.out] at le3
              subst le2 le3
              as_aux_lemma =>
              first | (go_wp2_with fail; refine Met.intro ?_; go_step; exact meet_at (by first | exact BC.out | exact below_drewN BC.out _) (by kernel_rfl)) | (go_quiet (fail); go_wp2_with fail; refine Met.intro ?_; go_step; exact meet_at (by first | exact BC.out | exact below_drewN BC.out _) (by kernel_rfl))
            · have dg : decide (h4 ≤ co) = false := decide_eq_false hge
              as_aux_lemma =>
              first | (go_wp2_with fail; refine Met.intro ?_; go_step; exact meet_at (by first | exact BC.out | exact below_drewN BC.out _) (by kernel_rfl)) | (go_quiet (fail); go_wp2_with fail; refine Met.intro ?_; go_step; exact meet_at (by first | exact BC.out | exact below_drewN BC.out _) (by kernel_rfl))
        case restN =>
        rintro _ wg ⟨f, hb, rfl⟩
        replace B9 := Lib.hid (below_on B9.out hb)
        as_aux_lemma =>
        go_wp2_with fail
        refine Met.intro ?_
        go_step
        exact meet_at B9.out (by kernel_rfl)
    case rest2 =>
    rintro _ wd ⟨f, hb, rfl⟩
    replace B0 := Lib.hid (below_on B0.out hb)
    replace Bl := Lib.hid (below_on Bl.out hb)
    replace Tb := Lib.hid (below_on Tb.out hb)
    obtain ⟨mbx, mby⟩ := (sb.out.on Tb.out).c2
    clear hb B9 Ba Td Tb
    as_aux_lemma =>
    cases f0 with
    | false =>
      go_wp2_with fail
      go_ret
      exact ⟨rfl, B0.out⟩
    | true =>
      obtain ⟨k, hk, ek, hlk, hiff, hsum, hn12, hon, hbd, htl, hwb⟩ := leaders_rest gf0.out
      rw [gf1.out] at ek
      subst ek
      rw [gf4.out] at hiff
      rw [gf2.out, gf3.out] at hsum hbd
      have HI := Lib.hid (fun k (hk : k < n) => lenTo_in hon k hk)
      have HON := Lib.hid hon
      obtain ⟨Al, cl, rfl⟩ := Rl.out.form
      obtain ⟨bl, ol, rfl, hbl, hcl⟩ := (Rl.out.below Bl.out).spot (by omega)
      have HCL := Lib.hid hcl
      have HBL := Lib.hid (show bl < wd.heap.size from Nat.lt_of_lt_of_le hbl Bl.out.size)
      have hik := HI.out k (by omega)
      obtain ⟨lk, glk⟩ : ∃ z, lenTo xs k = z := ⟨_, rfl⟩
      have HLK := Lib.hid glk
      rw [glk] at hlk hsum hbd hik
      have HSUM := Lib.hid (⟨hsum, hbd⟩ : _ ∧ _)
      have HLKT := Lib.hid hlk
      have hn2 := hn12.1
      have hn3 := hn12.2
      have ht9 : t ≤ 30000 := by have := HI.out (n - 1) (by omega); omega
      have i0 : (0 : Int) ≤ (k : Int) := by omega
      have i3 := IntWalk.i64_in ((n : Int) - 1) (by omega)
      have d1 : decide ((k : Int) < 0) = false := by simp
      have d2 : decide ((n : Int) - 1 < (k : Int)) = false := by simp; omega
      obtain ⟨z, z1⟩ : ∃ z : Bool, ((k : Int) == (n : Int) - 1) = z := ⟨_, rfl⟩
      have z2 : (t == f4) = z := by
        rw [← z1, Bool.eq_iff_iff]
        simp only [beq_iff_eq]
        rw [← hiff]
        omega
      have z3 : (z != z) = false := by simp
      clear hiff hsum hbd glk hbl hcl hon htl hwb hlk hn12 gf0 gf1 gf2 gf3 gf4 gf5 gh0 gh1 gh2 gh3 gh4
      go_wp2_with fail
      go_loopw [46, 47] (fun s i wr => ∃ j : Nat, j ≤ k ∧ i = .int .i64 ((j : Int) + 1) ∧ s = .int .i64 (t - lenTo xs j) ∧ Below wd.heap.size wd wr) (fun _ i _ => n + 1 - (intOf i).toNat)
      case atStart => exact ⟨0, by omega, by simp, by simp [lenTo], Below.refl _ _⟩
      case round =>
        obtain ⟨j, hj, rfl, rfl, hb⟩ := hrel
        by_cases hlt : j < k
        · have hc0 := HCL.out j (by omega)
          have hc1 := HCL.out (j + 1) (by omega)
          have s1 := spotB_yes (HON.out j (by omega))
          have s2 := spotB_yes (HON.out (j + 1) (by omega))
          have hi := HI.out j (by omega)
          have hi2 := HI.out (j + 1) (by omega)
          have hs : lenTo xs (j + 1) = lenTo xs j + (ab (X xs (j + 1) - X xs j) + ab (Y xs (j + 1) - Y xs j)) := rfl
          obtain ⟨x, ex⟩ : ∃ x, X xs j = x := ⟨_, rfl⟩
          obtain ⟨y, ey⟩ : ∃ y, Y xs j = y := ⟨_, rfl⟩
          obtain ⟨p, ep⟩ : ∃ x, X xs (j + 1) = x := ⟨_, rfl⟩
          obtain ⟨q, eq⟩ : ∃ y, Y xs (j + 1) = y := ⟨_, rfl⟩
          rw [ex, ey] at hc0 s1
          rw [ep, eq] at hc1 s2
          rw [ex, ey, ep, eq] at hs
          have g1 := fun W => qAbs_any (p - x) W (by omega) (by omega)
          have g2 := fun W => qAbs_any (q - y) W (by omega) (by omega)
          obtain ⟨u, eu⟩ : ∃ u, ab (p - x) = u := ⟨_, rfl⟩
          obtain ⟨v', ev⟩ : ∃ v, ab (q - y) = v := ⟨_, rfl⟩
          obtain ⟨l2, el2⟩ : ∃ l, lenTo xs (j + 1) = l := ⟨_, rfl⟩
          obtain ⟨lj, el⟩ : ∃ l, lenTo xs j = l := ⟨_, rfl⟩
          rw [eu] at g1
          rw [ev] at g2
          rw [eu, ev, el2, el] at hs
          rw [el] at hi
          rw [el2] at hi2
          rw [el]
          have H1 := Lib.hid g1
          have H2 := Lib.hid g2
          have HL2 := Lib.hid (⟨el2, hs⟩ : _ ∧ _)
          have c0 := (hb.cell (p := ⟨bl, ol + j * 2, none⟩) HBL.out).trans hc0.1
          have c1 := (hb.cell (p := ⟨bl, ol + j * 2 + 1, none⟩) HBL.out).trans hc0.2
          have d0 := (hb.cell (p := ⟨bl, ol + (j + 1) * 2, none⟩) HBL.out).trans hc1.1
          have d9 := (hb.cell (p := ⟨bl, ol + (j + 1) * 2 + 1, none⟩) HBL.out).trans hc1.2
          have e1 := IntWalk.i64_in (p - x) (by omega)
          have e2 := IntWalk.i64_in (q - y) (by omega)
          have e3 := IntWalk.i64_in (u + v') (by omega)
          have e4 := IntWalk.i64_in (t - lj - (u + v')) (by omega)
          have j0 : (0 : Int) ≤ (j : Int) := by omega
          have j1 : (j : Int) < (n : Int) := by omega
          have j2 : (0 : Int) ≤ (j : Int) + 1 := by omega
          have j3 : (j : Int) + 1 < (n : Int) := by omega
          have j4 : ((j : Int) + 1).toNat = j + 1 := by omega
          have j5 := IntWalk.i64_in (j : Int) (by omega)
          have j6 := IntWalk.i64_in ((j : Int) + 1) (by omega)
          have j7 : (j : Int) + 1 ≤ (k : Int) := by omega
          have HB := Lib.hid hb
          clear hc0 hc1 ex ey ep eq el el2 eu ev hs s1 s2 hi hi2 hb g1 g2 hik mbx mby
          go_wp2_with fail
          go_quiet (first | (go_at_call_of 20 (p - x); exact Calls.quiet_of_same (flip_same (H1.out _))) | (go_at_call_of 20 (q - y); exact Calls.quiet_of_same (flip_same (H2.out _))))
          go_wp2_with fail
          go_roundw
          case rel => exact ⟨j + 1, by omega, by go_num, by have := HL2.out; rw [this.1, this.2]; congr 1; omega, below_drewN HB.out _⟩
          case measure => simp [intOf]; omega
        · obtain rfl : j = k := by omega
          have hc0 := HCL.out j (by omega)
          have s1 := spotB_yes (HON.out j (by omega))
          obtain ⟨hsum, hbd⟩ := HSUM.out
          have hlkt := HLKT.out
          obtain ⟨x, ex⟩ : ∃ x, X xs j = x := ⟨_, rfl⟩
          obtain ⟨y, ey⟩ : ∃ y, Y xs j = y := ⟨_, rfl⟩
          rw [ex, ey] at hc0 s1 hsum hbd
          rw [HLK.out]
          have g1 := fun W => qAbs_any (f2 - x) W (by omega) (by omega)
          have g2 := fun W => qAbs_any (f3 - y) W (by omega) (by omega)
          have e1 := IntWalk.i64_in (f2 - x) (by omega)
          have e2 := IntWalk.i64_in (f3 - y) (by omega)
          obtain ⟨u, eu⟩ : ∃ u, ab (f2 - x) = u := ⟨_, rfl⟩
          obtain ⟨v', ev⟩ : ∃ v, ab (f3 - y) = v := ⟨_, rfl⟩
          obtain ⟨r, er⟩ : ∃ r, t - lk = r := ⟨_, rfl⟩
          rw [eu] at g1
          rw [ev] at g2
          rw [eu, ev, er] at hsum
          rw [er]
          have e3 := IntWalk.i64_in (u + v') (by omega)
          have d3 : decide ((0 : Int) ≤ r) = true := by simp; omega
          have d4 : (u + v' == r) = true := by simp; omega
          have H1 := Lib.hid g1
          have H2 := Lib.hid g2
          have c0 := (hb.cell (p := ⟨bl, ol + j * 2, none⟩) HBL.out).trans hc0.1
          have c1 := (hb.cell (p := ⟨bl, ol + j * 2 + 1, none⟩) HBL.out).trans hc0.2
          have j1 : (j : Int) < (n : Int) := by omega
          have j8 : ¬ ((j : Int) + 1 ≤ (j : Int)) := by omega
          have nb0 := cell_on (below_new (Below.refl wr.heap.size wr) (.cells #[.int .i64 x, .int .i64 y] 29)) (cell_on hb mbx)
          have nb1 := cell_on (below_new (Below.refl wr.heap.size wr) (.cells #[.int .i64 x, .int .i64 y] 29)) (cell_on hb mby)
          obtain ⟨nf0, nf1⟩ := (Blk.new wr 29 #[.int .i64 x, .int .i64 y]).c2
          have HB := Lib.hid (below_new (below_on B0.out hb) (.cells #[.int .i64 x, .int .i64 y] 29))
          clear hc0 ex ey s1 hsum hbd hlkt eu ev er g1 g2 hb mbx mby hik
          go_wp2_with fail
          go_quiet (first | (go_at_call_of 20 (f2 - x); exact Calls.quiet_of_same (flip_same (H1.out _))) | (go_at_call_of 20 (f3 - y); exact Calls.quiet_of_same (flip_same (H2.out _))))
          go_wp2_with fail
          go_ret
          exact ⟨rfl, below_drewN HB.out _⟩
end Go.Proofs.Ytciolimmfldpbaa
