/- For all drawn transitions both sides find the same waves, those together, room and who collides, and what they say of them holds: the walk. Without conditions. -/
import Derived.Test.YtjcepipgjpaclaaGreatPFnWaves48
import Derived.Test.YtjcepipgjpaclaaGreatPFnWaves50
import Derived.Test.YtjcepipgjpaclaaGreatPFnWaves23
import Derived.Test.YtjcepipgjpaclaaGreatPFnWaves09
namespace Go.Proofs.YtjcepipgjpaclaaGreat
open Go.RowKit

set_option maxRecDepth 100000 in
set_option maxHeartbeats 4000000 in
theorem wav_walk (w : World) (A0 : Option Addr) (n0 c0 : Nat) (hr0 : RdB w w.heap.size A0 n0) (hm0 : n0 ≤ maxLen) (A1 : Option Addr) (n1 c1 : Nat) (hr1 : RdB w w.heap.size A1 n1) (hm1 : n1 ≤ maxLen) :
    Calls Tryz.prog 3 #[.slice A0 n0 c0, .slice A1 n1 c1] w fun e w' => e = .returned (.bool true) ∧ Below w.heap.size w w' := by
  unfold maxLen at hm0 hm1
  have H0 := Lib.hid hr0
  have H1 := Lib.hid hr1
  have B0 := Lib.hid (Below.refl w.heap.size w)
  clear hr0 hr1
  go_enter Tryz.func3, Tryz.ntmps3
  go_wp2_with fail
  refine (big_any A0 n0 c0 A1 n1 c1 _).mono ?_
  rintro e w' ⟨bg, rfl, rfl⟩
  cases bg with
  | true =>
    go_wp2_with fail
    go_ret
    exact ⟨rfl, B0.out⟩
  | false =>
    go_wp2_with fail
    refine (DrawWavesOf_any A0 n0 c0 _ H0.out hm0).mono ?_
    rintro e w1 ⟨r, t, L, rfl, oa, hsz, hL, hb⟩
    replace B0 := Lib.hid (below_on B0.out hb)
    clear hb
    have CT := Lib.hid oa.cap
    have RT := Lib.hid oa.rd
    have ST := Lib.hid (show t.small from ⟨by omega, by omega, by omega⟩)
    obtain ⟨Ar, cr, Dr, dr, Er, er, rfl, -, -, -⟩ := oa.form
    clear oa hsz hL
    have BT := Lib.hid (Below.refl w1.heap.size w1)
    have KT := Lib.hid (Blk.new w1 27 #[.slice Ar t.n cr, .slice Dr t.m dr, .int .i64 t.c, .slice Er t.p er])
    replace B0 := Lib.hid (below_new B0.out (.cells #[.slice Ar t.n cr, .slice Dr t.m dr, .int .i64 t.c, .slice Er t.p er] 27))
    replace BT := Lib.hid (below_new BT.out (.cells #[.slice Ar t.n cr, .slice Dr t.m dr, .int .i64 t.c, .slice Er t.p er] 27))
    obtain ⟨gt, egt⟩ : ∃ q, w1.heap.size = q := ⟨_, rfl⟩
    have EGT := Lib.hid egt
    clear egt
    obtain ⟨ob, gob⟩ : ∃ q, cpB t L = q := ⟨_, rfl⟩
    have P := fun (B : Nat) (W : World) (h1 : RdT W B (.agg #[.slice Ar t.n cr, .slice Dr t.m dr, .int .i64 t.c, .slice Er t.p er]) t) (h2 : B ≤ W.heap.size) => WavesOf_any (.agg #[.slice Ar t.n cr, .slice Dr t.m dr, .int .i64 t.c, .slice Er t.p er]) B t L W CT.out h1 h2 ST.out
    rw [show waB t L = ob from gob] at P
    replace P := Lib.hid P
    obtain ⟨k0, k1, k2, k3⟩ := KT.out.c4
    go_wp2_with fail
    refine (P.out _ _ (RT.out.below BT.out) BT.out.size).mono ?_
    rintro e w2 ⟨vw1, rfl, ho, hb⟩
    replace B0 := Lib.hid (below_on B0.out hb)
    replace BT := Lib.hid (below_on BT.out hb)
    replace KT := Lib.hid (KT.out.on hb)
    clear hb
    obtain ⟨Sw1, sw1, rfl⟩ := (Rd.of_own ho).form
    have Ww1 := Lib.hid ho
    clear ho P k0 k1 k2 k3
    have P := fun (B : Nat) (W : World) (h1 : RdT W B (.agg #[.slice Ar t.n cr, .slice Dr t.m dr, .int .i64 t.c, .slice Er t.p er]) t) (h2 : B ≤ W.heap.size) => specWavesOf_any (.agg #[.slice Ar t.n cr, .slice Dr t.m dr, .int .i64 t.c, .slice Er t.p er]) B t L W CT.out h1 h2 ST.out
    rw [show waB t L = ob from gob] at P
    replace P := Lib.hid P
    obtain ⟨k0, k1, k2, k3⟩ := KT.out.c4
    go_wp2_with fail
    refine (P.out _ _ (RT.out.below BT.out) BT.out.size).mono ?_
    rintro e w3 ⟨vw2, rfl, ho, hb⟩
    replace B0 := Lib.hid (below_on B0.out hb)
    replace BT := Lib.hid (below_on BT.out hb)
    replace KT := Lib.hid (KT.out.on hb)
    replace Ww1 := Lib.hid (own_below Ww1.out hb (Nat.le_refl _))
    clear hb
    obtain ⟨Sw2, sw2, rfl⟩ := (Rd.of_own ho).form
    have Ww2 := Lib.hid ho
    clear ho P k0 k1 k2 k3
    have P := fun (B : Nat) (W : World) (h1 : RdT W B (.agg #[.slice Ar t.n cr, .slice Dr t.m dr, .int .i64 t.c, .slice Er t.p er]) t) (h2 : B ≤ W.heap.size) => FewestWaves_any (.agg #[.slice Ar t.n cr, .slice Dr t.m dr, .int .i64 t.c, .slice Er t.p er]) B t L W CT.out h1 h2 ST.out
    rw [show wvB t L = ob from gob] at P
    replace P := Lib.hid P
    obtain ⟨k0, k1, k2, k3⟩ := KT.out.c4
    go_wp2_with fail
    refine (P.out _ _ (RT.out.below BT.out) BT.out.size).mono ?_
    rintro e w4 ⟨rfl, hb⟩
    replace B0 := Lib.hid (below_on B0.out hb)
    replace BT := Lib.hid (below_on BT.out hb)
    replace KT := Lib.hid (KT.out.on hb)
    replace Ww1 := Lib.hid (own_below Ww1.out hb (Nat.le_refl _))
    replace Ww2 := Lib.hid (own_below Ww2.out hb (Nat.le_refl _))
    clear hb
    clear P k0 k1 k2 k3
    have P := fun (B : Nat) (W : World) (h1 : RdT W B (.agg #[.slice Ar t.n cr, .slice Dr t.m dr, .int .i64 t.c, .slice Er t.p er]) t) (h2 : B ≤ W.heap.size) => specFewestWaves_any (.agg #[.slice Ar t.n cr, .slice Dr t.m dr, .int .i64 t.c, .slice Er t.p er]) B t L W CT.out h1 h2 ST.out
    rw [show wvB t L = ob from gob] at P
    replace P := Lib.hid P
    obtain ⟨k0, k1, k2, k3⟩ := KT.out.c4
    go_wp2_with fail
    refine (P.out _ _ (RT.out.below BT.out) BT.out.size).mono ?_
    rintro e w5 ⟨rfl, hb⟩
    replace B0 := Lib.hid (below_on B0.out hb)
    replace BT := Lib.hid (below_on BT.out hb)
    replace KT := Lib.hid (KT.out.on hb)
    replace Ww1 := Lib.hid (own_below Ww1.out hb (Nat.le_refl _))
    replace Ww2 := Lib.hid (own_below Ww2.out hb (Nat.le_refl _))
    clear hb
    clear P k0 k1 k2 k3
    have P := fun (B : Nat) (W : World) (h1 : RdT W B (.agg #[.slice Ar t.n cr, .slice Dr t.m dr, .int .i64 t.c, .slice Er t.p er]) t) (h2 : B ≤ W.heap.size) => MostTogether_any (.agg #[.slice Ar t.n cr, .slice Dr t.m dr, .int .i64 t.c, .slice Er t.p er]) B t L W CT.out h1 h2 ST.out
    rw [show mgB t L = ob from gob] at P
    replace P := Lib.hid P
    obtain ⟨k0, k1, k2, k3⟩ := KT.out.c4
    go_wp2_with fail
    refine (P.out _ _ (RT.out.below BT.out) BT.out.size).mono ?_
    rintro e w6 ⟨vm1, rfl, ho, hb⟩
    replace B0 := Lib.hid (below_on B0.out hb)
    replace BT := Lib.hid (below_on BT.out hb)
    replace KT := Lib.hid (KT.out.on hb)
    replace Ww1 := Lib.hid (own_below Ww1.out hb (Nat.le_refl _))
    replace Ww2 := Lib.hid (own_below Ww2.out hb (Nat.le_refl _))
    clear hb
    obtain ⟨Sm1, sm1, rfl⟩ := (Rd.of_own ho).form
    have Wm1 := Lib.hid ho
    clear ho P k0 k1 k2 k3
    have P := fun (B : Nat) (W : World) (h1 : RdT W B (.agg #[.slice Ar t.n cr, .slice Dr t.m dr, .int .i64 t.c, .slice Er t.p er]) t) (h2 : B ≤ W.heap.size) => specMostTogether_any (.agg #[.slice Ar t.n cr, .slice Dr t.m dr, .int .i64 t.c, .slice Er t.p er]) B t L W CT.out h1 h2 ST.out
    rw [show mgB t L = ob from gob] at P
    replace P := Lib.hid P
    obtain ⟨k0, k1, k2, k3⟩ := KT.out.c4
    go_wp2_with fail
    refine (P.out _ _ (RT.out.below BT.out) BT.out.size).mono ?_
    rintro e w7 ⟨vm2, rfl, ho, hb⟩
    replace B0 := Lib.hid (below_on B0.out hb)
    replace BT := Lib.hid (below_on BT.out hb)
    replace KT := Lib.hid (KT.out.on hb)
    replace Ww1 := Lib.hid (own_below Ww1.out hb (Nat.le_refl _))
    replace Ww2 := Lib.hid (own_below Ww2.out hb (Nat.le_refl _))
    replace Wm1 := Lib.hid (own_below Wm1.out hb (Nat.le_refl _))
    clear hb
    obtain ⟨Sm2, sm2, rfl⟩ := (Rd.of_own ho).form
    have Wm2 := Lib.hid ho
    clear ho P k0 k1 k2 k3
    have P := fun (B : Nat) (W : World) (h1 : RdT W B (.agg #[.slice Ar t.n cr, .slice Dr t.m dr, .int .i64 t.c, .slice Er t.p er]) t) (h2 : B ≤ W.heap.size) => ConflictPairs_any (.agg #[.slice Ar t.n cr, .slice Dr t.m dr, .int .i64 t.c, .slice Er t.p er]) B t L W CT.out h1 h2 ST.out
    rw [show cpB t L = ob from gob] at P
    replace P := Lib.hid P
    obtain ⟨k0, k1, k2, k3⟩ := KT.out.c4
    go_wp2_with fail
    refine (P.out _ _ (RT.out.below BT.out) BT.out.size).mono ?_
    rintro e w8 ⟨vp1, gp1, rfl, hrw, hb⟩
    replace B0 := Lib.hid (below_on B0.out hb)
    replace BT := Lib.hid (below_on BT.out hb)
    replace KT := Lib.hid (KT.out.on hb)
    replace Ww1 := Lib.hid (own_below Ww1.out hb (Nat.le_refl _))
    replace Ww2 := Lib.hid (own_below Ww2.out hb (Nat.le_refl _))
    replace Wm1 := Lib.hid (own_below Wm1.out hb (Nat.le_refl _))
    replace Wm2 := Lib.hid (own_below Wm2.out hb (Nat.le_refl _))
    clear hb
    have Wp1 := Lib.hid hrw
    obtain ⟨Sp1, sp1, rfl⟩ := hrw.form
    clear hrw P k0 k1 k2 k3
    have P := fun (B : Nat) (W : World) (h1 : RdT W B (.agg #[.slice Ar t.n cr, .slice Dr t.m dr, .int .i64 t.c, .slice Er t.p er]) t) (h2 : B ≤ W.heap.size) => specConflictPairs_any (.agg #[.slice Ar t.n cr, .slice Dr t.m dr, .int .i64 t.c, .slice Er t.p er]) B t L W CT.out h1 h2 ST.out
    rw [show cpB t L = ob from gob] at P
    replace P := Lib.hid P
    obtain ⟨k0, k1, k2, k3⟩ := KT.out.c4
    go_wp2_with fail
    refine (P.out _ _ (RT.out.below BT.out) BT.out.size).mono ?_
    rintro e w9 ⟨vp2, gp2, rfl, hrw, hb⟩
    replace B0 := Lib.hid (below_on B0.out hb)
    replace BT := Lib.hid (below_on BT.out hb)
    replace KT := Lib.hid (KT.out.on hb)
    replace Ww1 := Lib.hid (own_below Ww1.out hb (Nat.le_refl _))
    replace Ww2 := Lib.hid (own_below Ww2.out hb (Nat.le_refl _))
    replace Wm1 := Lib.hid (own_below Wm1.out hb (Nat.le_refl _))
    replace Wm2 := Lib.hid (own_below Wm2.out hb (Nat.le_refl _))
    replace Wp1 := Lib.hid (Wp1.out.keep hb)
    clear hb
    have Wp2 := Lib.hid hrw
    obtain ⟨Sp2, sp2, rfl⟩ := hrw.form
    clear hrw P k0 k1 k2 k3
    have no : (ob != ob) = false := by simp
    have nv : (wvV t L != wvV t L) = false := by simp
    go_wp2_with fail
    refine (sameInts_same _ _ (waN t L) _ (waL t L) _ (Rd.of_own Ww1.out) (Rd.of_own Ww2.out) (Nat.le_refl _) (by have := (wa_small t L).1; omega)).mono ?_
    rintro e w10 ⟨rfl, hb⟩
    replace B0 := Lib.hid (below_on B0.out hb)
    replace BT := Lib.hid (below_on BT.out hb)
    replace KT := Lib.hid (KT.out.on hb)
    replace Ww1 := Lib.hid (own_below Ww1.out hb (Nat.le_refl _))
    replace Ww2 := Lib.hid (own_below Ww2.out hb (Nat.le_refl _))
    replace Wm1 := Lib.hid (own_below Wm1.out hb (Nat.le_refl _))
    replace Wm2 := Lib.hid (own_below Wm2.out hb (Nat.le_refl _))
    replace Wp1 := Lib.hid (Wp1.out.keep hb)
    replace Wp2 := Lib.hid (Wp2.out.keep hb)
    clear hb
    go_wp2_with fail
    refine (sameInts_same _ _ (mgN t L) _ (mgL t L) _ (Rd.of_own Wm1.out) (Rd.of_own Wm2.out) (Nat.le_refl _) (by have := (mg_small t L).1; omega)).mono ?_
    rintro e w11 ⟨rfl, hb⟩
    replace B0 := Lib.hid (below_on B0.out hb)
    replace BT := Lib.hid (below_on BT.out hb)
    replace KT := Lib.hid (KT.out.on hb)
    replace Ww1 := Lib.hid (own_below Ww1.out hb (Nat.le_refl _))
    replace Ww2 := Lib.hid (own_below Ww2.out hb (Nat.le_refl _))
    replace Wm1 := Lib.hid (own_below Wm1.out hb (Nat.le_refl _))
    replace Wm2 := Lib.hid (own_below Wm2.out hb (Nat.le_refl _))
    replace Wp1 := Lib.hid (Wp1.out.keep hb)
    replace Wp2 := Lib.hid (Wp2.out.keep hb)
    clear hb
    go_wp2_with fail
    refine (sameLists_same _ _ (cpN t L) _ _ _ _ (cpL t L) _ Wp1.out Wp2.out (cp_small t L).1).mono ?_
    rintro e w12 ⟨rfl, hb⟩
    replace B0 := Lib.hid (below_on B0.out hb)
    replace BT := Lib.hid (below_on BT.out hb)
    replace KT := Lib.hid (KT.out.on hb)
    replace Ww1 := Lib.hid (own_below Ww1.out hb (Nat.le_refl _))
    replace Ww2 := Lib.hid (own_below Ww2.out hb (Nat.le_refl _))
    replace Wm1 := Lib.hid (own_below Wm1.out hb (Nat.le_refl _))
    replace Wm2 := Lib.hid (own_below Wm2.out hb (Nat.le_refl _))
    replace Wp1 := Lib.hid (Wp1.out.keep hb)
    replace Wp2 := Lib.hid (Wp2.out.keep hb)
    clear hb
    have HC := Lib.hid (fun f => wv_c w w12 B0.out gt Ar Dr Er cr dr er t L 0 _ _ _ _ ob A1 n1 c1 (H1.out.kept B0.out) hm1 ⟨by rw [← EGT.out]; exact KT.out, (RT.out.below BT.out).more BT.out.size, CT.out, ST.out⟩ ⟨own_base Ww2.out (Nat.zero_le _), own_base Wm2.out (Nat.zero_le _), Wp2.out.base (Nat.zero_le _)⟩ gob f)
    rw [EGT.out]
    go_upto_if 154 with (fail)
    go_step
    go_step
    go_step
    go_step
    exact wp_of_fn (by kernel_rfl) HC.out
end Go.Proofs.YtjcepipgjpaclaaGreat
