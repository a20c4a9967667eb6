/- For all drawn transitions both sides find the same conflicts, and what they say of them holds: the walk. Without conditions. -/
import Derived.Test.YtjcepipgjpaclaaPFnConflicts32
import Derived.Test.YtjcepipgjpaclaaPFnConflicts43
import Derived.Test.YtjcepipgjpaclaaPFnConflicts27
import Derived.Test.YtjcepipgjpaclaaPFnConflicts29
import Derived.Test.YtjcepipgjpaclaaPFnConflicts44
import Derived.Test.YtjcepipgjpaclaaPFnConflicts31
import Derived.Test.YtjcepipgjpaclaaPFnConflicts10
namespace Go.Proofs.Ytjcepipgjpaclaa
open Go.RowKit

theorem Rows.keep {w w' : World} {lo n : Nat} {v : Value} {gs : List Nat} {rs : List (List Int)} (h : Rows w lo v n gs rs) (hb : Below w.heap.size w w') : Rows w' lo v n gs rs := h.below hb (Nat.le_refl _)
set_option maxRecDepth 100000 in
set_option maxHeartbeats 4000000 in
theorem conf_walk (w : World) (A0 : Option Addr) (n0 c0 : Nat) (hr0 : RdB w w.heap.size A0 n0) (hm0 : n0 ≤ maxLen) (A1 : Option Addr) (n1 c1 : Nat) (hr1 : RdB w w.heap.size A1 n1) (hm1 : n1 ≤ maxLen) :
    Calls Try.prog 3 #[.slice A0 n0 c0, .slice A1 n1 c1] w fun e w' => e = .returned (.bool true) ∧ Below w.heap.size w w' := by
  unfold maxLen at hm0 hm1
  have H0 := Lib.hid hr0
  have B0 := Lib.hid (Below.refl w.heap.size w)
  clear hr0 hr1
  go_enter Try.func3, Try.ntmps3
  go_wp2_with fail
  refine (big_any A0 n0 c0 A1 n1 c1 _).mono ?_
  rintro e w' ⟨bg, rfl, rfl⟩
  cases bg with
  | true =>
    go_wp2_with fail
    go_ret
    exact ⟨rfl, B0.out⟩
  | false =>
    go_wp2_with fail
    refine (DrawConflictPairs_any A0 n0 c0 _ H0.out hm0).mono ?_
    rintro e w1 ⟨r, t, L, rfl, oa, hsz, hL, hb⟩
    replace B0 := Lib.hid (below_on B0.out hb)
    clear hb
    have CT := Lib.hid oa.cap
    have RT := Lib.hid oa.rd
    have ST := Lib.hid (show t.small from ⟨by omega, by omega, by omega⟩)
    obtain ⟨Ar, cr, Dr, dr, Er, er, rfl, -, -, -⟩ := oa.form
    clear oa hsz hL
    have BT := Lib.hid (Below.refl w1.heap.size w1)
    have KT := Lib.hid (Blk.new w1 27 #[.slice Ar t.n cr, .slice Dr t.m dr, .int .i64 t.c, .slice Er t.p er])
    replace B0 := Lib.hid (below_new B0.out (.cells #[.slice Ar t.n cr, .slice Dr t.m dr, .int .i64 t.c, .slice Er t.p er] 27))
    replace BT := Lib.hid (below_new BT.out (.cells #[.slice Ar t.n cr, .slice Dr t.m dr, .int .i64 t.c, .slice Er t.p er] 27))
    obtain ⟨gt, egt⟩ : ∃ q, w1.heap.size = q := ⟨_, rfl⟩
    have EGT := Lib.hid egt
    clear egt
    obtain ⟨ob, gob⟩ : ∃ q, cpB t L = q := ⟨_, rfl⟩
    obtain ⟨gb, ggb⟩ : ∃ q, glB t = q := ⟨_, rfl⟩
    have P := fun (B : Nat) (W : World) (h1 : RdT W B (.agg #[.slice Ar t.n cr, .slice Dr t.m dr, .int .i64 t.c, .slice Er t.p er]) t) (h2 : B ≤ W.heap.size) => ConflictPairs_any (.agg #[.slice Ar t.n cr, .slice Dr t.m dr, .int .i64 t.c, .slice Er t.p er]) B t L W CT.out h1 h2 ST.out
    rw [show cpB t L = ob from gob] at P
    replace P := Lib.hid P
    obtain ⟨k0, k1, k2, k3⟩ := KT.out.c4
    go_wp2_with fail
    refine (P.out _ _ (RT.out.below BT.out) BT.out.size).mono ?_
    rintro e w2 ⟨vp1, gp1, rfl, hrw, hb⟩
    replace B0 := Lib.hid (below_on B0.out hb)
    replace BT := Lib.hid (below_on BT.out hb)
    replace KT := Lib.hid (KT.out.on hb)
    clear hb
    have Wp1 := Lib.hid hrw
    obtain ⟨Sp1, sp1, rfl⟩ := hrw.form
    clear hrw P k0 k1 k2 k3
    have P := fun (B : Nat) (W : World) (h1 : RdT W B (.agg #[.slice Ar t.n cr, .slice Dr t.m dr, .int .i64 t.c, .slice Er t.p er]) t) (h2 : B ≤ W.heap.size) => specConflictPairs_any (.agg #[.slice Ar t.n cr, .slice Dr t.m dr, .int .i64 t.c, .slice Er t.p er]) B t L W CT.out h1 h2 ST.out
    rw [show cpB t L = ob from gob] at P
    replace P := Lib.hid P
    obtain ⟨k0, k1, k2, k3⟩ := KT.out.c4
    go_wp2_with fail
    refine (P.out _ _ (RT.out.below BT.out) BT.out.size).mono ?_
    rintro e w3 ⟨vp2, gp2, rfl, hrw, hb⟩
    replace B0 := Lib.hid (below_on B0.out hb)
    replace BT := Lib.hid (below_on BT.out hb)
    replace KT := Lib.hid (KT.out.on hb)
    replace Wp1 := Lib.hid (Wp1.out.keep hb)
    clear hb
    have Wp2 := Lib.hid hrw
    obtain ⟨Sp2, sp2, rfl⟩ := hrw.form
    clear hrw P k0 k1 k2 k3
    have P := fun (B : Nat) (W : World) (h1 : RdT W B (.agg #[.slice Ar t.n cr, .slice Dr t.m dr, .int .i64 t.c, .slice Er t.p er]) t) (h2 : B ≤ W.heap.size) => ConflictCounts_any (.agg #[.slice Ar t.n cr, .slice Dr t.m dr, .int .i64 t.c, .slice Er t.p er]) B t L W CT.out h1 h2 ST.out
    rw [show ccB t L = ob from gob] at P
    replace P := Lib.hid P
    obtain ⟨k0, k1, k2, k3⟩ := KT.out.c4
    go_wp2_with fail
    refine (P.out _ _ (RT.out.below BT.out) BT.out.size).mono ?_
    rintro e w4 ⟨vc1, rfl, ho, hb⟩
    replace B0 := Lib.hid (below_on B0.out hb)
    replace BT := Lib.hid (below_on BT.out hb)
    replace KT := Lib.hid (KT.out.on hb)
    replace Wp1 := Lib.hid (Wp1.out.keep hb)
    replace Wp2 := Lib.hid (Wp2.out.keep hb)
    clear hb
    obtain ⟨Sc1, sc1, rfl⟩ := (Rd.of_own ho).form
    have Wc1 := Lib.hid ho
    clear ho P k0 k1 k2 k3
    have P := fun (B : Nat) (W : World) (h1 : RdT W B (.agg #[.slice Ar t.n cr, .slice Dr t.m dr, .int .i64 t.c, .slice Er t.p er]) t) (h2 : B ≤ W.heap.size) => specConflictCounts_any (.agg #[.slice Ar t.n cr, .slice Dr t.m dr, .int .i64 t.c, .slice Er t.p er]) B t L W CT.out h1 h2 ST.out
    rw [show ccB t L = ob from gob] at P
    replace P := Lib.hid P
    obtain ⟨k0, k1, k2, k3⟩ := KT.out.c4
    go_wp2_with fail
    refine (P.out _ _ (RT.out.below BT.out) BT.out.size).mono ?_
    rintro e w5 ⟨vc2, rfl, ho, hb⟩
    replace B0 := Lib.hid (below_on B0.out hb)
    replace BT := Lib.hid (below_on BT.out hb)
    replace KT := Lib.hid (KT.out.on hb)
    replace Wp1 := Lib.hid (Wp1.out.keep hb)
    replace Wp2 := Lib.hid (Wp2.out.keep hb)
    replace Wc1 := Lib.hid (own_below Wc1.out hb (Nat.le_refl _))
    clear hb
    obtain ⟨Sc2, sc2, rfl⟩ := (Rd.of_own ho).form
    have Wc2 := Lib.hid ho
    clear ho P k0 k1 k2 k3
    have P := fun (B : Nat) (W : World) (h1 : RdT W B (.agg #[.slice Ar t.n cr, .slice Dr t.m dr, .int .i64 t.c, .slice Er t.p er]) t) (h2 : B ≤ W.heap.size) => FreePerformers_any (.agg #[.slice Ar t.n cr, .slice Dr t.m dr, .int .i64 t.c, .slice Er t.p er]) B t L W CT.out h1 h2 ST.out
    rw [show fpB t L = ob from gob] at P
    replace P := Lib.hid P
    obtain ⟨k0, k1, k2, k3⟩ := KT.out.c4
    go_wp2_with fail
    refine (P.out _ _ (RT.out.below BT.out) BT.out.size).mono ?_
    rintro e w6 ⟨vf1, rfl, ho, hb⟩
    replace B0 := Lib.hid (below_on B0.out hb)
    replace BT := Lib.hid (below_on BT.out hb)
    replace KT := Lib.hid (KT.out.on hb)
    replace Wp1 := Lib.hid (Wp1.out.keep hb)
    replace Wp2 := Lib.hid (Wp2.out.keep hb)
    replace Wc1 := Lib.hid (own_below Wc1.out hb (Nat.le_refl _))
    replace Wc2 := Lib.hid (own_below Wc2.out hb (Nat.le_refl _))
    clear hb
    obtain ⟨Sf1, sf1, rfl⟩ := (Rd.of_own ho).form
    have Wf1 := Lib.hid ho
    clear ho P k0 k1 k2 k3
    have P := fun (B : Nat) (W : World) (h1 : RdT W B (.agg #[.slice Ar t.n cr, .slice Dr t.m dr, .int .i64 t.c, .slice Er t.p er]) t) (h2 : B ≤ W.heap.size) => specFreePerformers_any (.agg #[.slice Ar t.n cr, .slice Dr t.m dr, .int .i64 t.c, .slice Er t.p er]) B t L W CT.out h1 h2 ST.out
    rw [show fpB t L = ob from gob] at P
    replace P := Lib.hid P
    obtain ⟨k0, k1, k2, k3⟩ := KT.out.c4
    go_wp2_with fail
    refine (P.out _ _ (RT.out.below BT.out) BT.out.size).mono ?_
    rintro e w7 ⟨vf2, rfl, ho, hb⟩
    replace B0 := Lib.hid (below_on B0.out hb)
    replace BT := Lib.hid (below_on BT.out hb)
    replace KT := Lib.hid (KT.out.on hb)
    replace Wp1 := Lib.hid (Wp1.out.keep hb)
    replace Wp2 := Lib.hid (Wp2.out.keep hb)
    replace Wc1 := Lib.hid (own_below Wc1.out hb (Nat.le_refl _))
    replace Wc2 := Lib.hid (own_below Wc2.out hb (Nat.le_refl _))
    replace Wf1 := Lib.hid (own_below Wf1.out hb (Nat.le_refl _))
    clear hb
    obtain ⟨Sf2, sf2, rfl⟩ := (Rd.of_own ho).form
    have Wf2 := Lib.hid ho
    clear ho P k0 k1 k2 k3
    have P := fun (B : Nat) (W : World) (h1 : RdT W B (.agg #[.slice Ar t.n cr, .slice Dr t.m dr, .int .i64 t.c, .slice Er t.p er]) t) (h2 : B ≤ W.heap.size) => EndConflicts_any (.agg #[.slice Ar t.n cr, .slice Dr t.m dr, .int .i64 t.c, .slice Er t.p er]) B t L W CT.out h1 h2 ST.out
    rw [show ecB t L = ob from gob] at P
    replace P := Lib.hid P
    obtain ⟨k0, k1, k2, k3⟩ := KT.out.c4
    go_wp2_with fail
    refine (P.out _ _ (RT.out.below BT.out) BT.out.size).mono ?_
    rintro e w8 ⟨ve1, ge1, rfl, hrw, hb⟩
    replace B0 := Lib.hid (below_on B0.out hb)
    replace BT := Lib.hid (below_on BT.out hb)
    replace KT := Lib.hid (KT.out.on hb)
    replace Wp1 := Lib.hid (Wp1.out.keep hb)
    replace Wp2 := Lib.hid (Wp2.out.keep hb)
    replace Wc1 := Lib.hid (own_below Wc1.out hb (Nat.le_refl _))
    replace Wc2 := Lib.hid (own_below Wc2.out hb (Nat.le_refl _))
    replace Wf1 := Lib.hid (own_below Wf1.out hb (Nat.le_refl _))
    replace Wf2 := Lib.hid (own_below Wf2.out hb (Nat.le_refl _))
    clear hb
    have We1 := Lib.hid hrw
    obtain ⟨Se1, se1, rfl⟩ := hrw.form
    clear hrw P k0 k1 k2 k3
    have P := fun (B : Nat) (W : World) (h1 : RdT W B (.agg #[.slice Ar t.n cr, .slice Dr t.m dr, .int .i64 t.c, .slice Er t.p er]) t) (h2 : B ≤ W.heap.size) => specEndConflicts_any (.agg #[.slice Ar t.n cr, .slice Dr t.m dr, .int .i64 t.c, .slice Er t.p er]) B t L W CT.out h1 h2 ST.out
    rw [show ecB t L = ob from gob] at P
    replace P := Lib.hid P
    obtain ⟨k0, k1, k2, k3⟩ := KT.out.c4
    go_wp2_with fail
    refine (P.out _ _ (RT.out.below BT.out) BT.out.size).mono ?_
    rintro e w9 ⟨ve2, ge2, rfl, hrw, hb⟩
    replace B0 := Lib.hid (below_on B0.out hb)
    replace BT := Lib.hid (below_on BT.out hb)
    replace KT := Lib.hid (KT.out.on hb)
    replace Wp1 := Lib.hid (Wp1.out.keep hb)
    replace Wp2 := Lib.hid (Wp2.out.keep hb)
    replace Wc1 := Lib.hid (own_below Wc1.out hb (Nat.le_refl _))
    replace Wc2 := Lib.hid (own_below Wc2.out hb (Nat.le_refl _))
    replace Wf1 := Lib.hid (own_below Wf1.out hb (Nat.le_refl _))
    replace Wf2 := Lib.hid (own_below Wf2.out hb (Nat.le_refl _))
    replace We1 := Lib.hid (We1.out.keep hb)
    clear hb
    have We2 := Lib.hid hrw
    obtain ⟨Se2, se2, rfl⟩ := hrw.form
    clear hrw P k0 k1 k2 k3
    have P := fun (B : Nat) (W : World) (h1 : RdT W B (.agg #[.slice Ar t.n cr, .slice Dr t.m dr, .int .i64 t.c, .slice Er t.p er]) t) (h2 : B ≤ W.heap.size) => ConflictTimes_any (.agg #[.slice Ar t.n cr, .slice Dr t.m dr, .int .i64 t.c, .slice Er t.p er]) B t L W CT.out h1 h2 ST.out
    rw [show ctB t L = ob from gob] at P
    replace P := Lib.hid P
    obtain ⟨k0, k1, k2, k3⟩ := KT.out.c4
    go_wp2_with fail
    refine (P.out _ _ (RT.out.below BT.out) BT.out.size).mono ?_
    rintro e w10 ⟨vx1, gx1, rfl, hrw, hb⟩
    replace B0 := Lib.hid (below_on B0.out hb)
    replace BT := Lib.hid (below_on BT.out hb)
    replace KT := Lib.hid (KT.out.on hb)
    replace Wp1 := Lib.hid (Wp1.out.keep hb)
    replace Wp2 := Lib.hid (Wp2.out.keep hb)
    replace Wc1 := Lib.hid (own_below Wc1.out hb (Nat.le_refl _))
    replace Wc2 := Lib.hid (own_below Wc2.out hb (Nat.le_refl _))
    replace Wf1 := Lib.hid (own_below Wf1.out hb (Nat.le_refl _))
    replace Wf2 := Lib.hid (own_below Wf2.out hb (Nat.le_refl _))
    replace We1 := Lib.hid (We1.out.keep hb)
    replace We2 := Lib.hid (We2.out.keep hb)
    clear hb
    have Wx1 := Lib.hid hrw
    obtain ⟨Sx1, sx1, rfl⟩ := hrw.form
    clear hrw P k0 k1 k2 k3
    have P := fun (B : Nat) (W : World) (h1 : RdT W B (.agg #[.slice Ar t.n cr, .slice Dr t.m dr, .int .i64 t.c, .slice Er t.p er]) t) (h2 : B ≤ W.heap.size) => specConflictTimes_any (.agg #[.slice Ar t.n cr, .slice Dr t.m dr, .int .i64 t.c, .slice Er t.p er]) B t L W CT.out h1 h2 ST.out
    rw [show ctB t L = ob from gob] at P
    replace P := Lib.hid P
    obtain ⟨k0, k1, k2, k3⟩ := KT.out.c4
    go_wp2_with fail
    refine (P.out _ _ (RT.out.below BT.out) BT.out.size).mono ?_
    rintro e w11 ⟨vx2, gx2, rfl, hrw, hb⟩
    replace B0 := Lib.hid (below_on B0.out hb)
    replace BT := Lib.hid (below_on BT.out hb)
    replace KT := Lib.hid (KT.out.on hb)
    replace Wp1 := Lib.hid (Wp1.out.keep hb)
    replace Wp2 := Lib.hid (Wp2.out.keep hb)
    replace Wc1 := Lib.hid (own_below Wc1.out hb (Nat.le_refl _))
    replace Wc2 := Lib.hid (own_below Wc2.out hb (Nat.le_refl _))
    replace Wf1 := Lib.hid (own_below Wf1.out hb (Nat.le_refl _))
    replace Wf2 := Lib.hid (own_below Wf2.out hb (Nat.le_refl _))
    replace We1 := Lib.hid (We1.out.keep hb)
    replace We2 := Lib.hid (We2.out.keep hb)
    replace Wx1 := Lib.hid (Wx1.out.keep hb)
    clear hb
    have Wx2 := Lib.hid hrw
    obtain ⟨Sx2, sx2, rfl⟩ := hrw.form
    clear hrw P k0 k1 k2 k3
    have P := fun (B : Nat) (W : World) (h1 : RdT W B (.agg #[.slice Ar t.n cr, .slice Dr t.m dr, .int .i64 t.c, .slice Er t.p er]) t) (h2 : B ≤ W.heap.size) => GreatestLeast_any (.agg #[.slice Ar t.n cr, .slice Dr t.m dr, .int .i64 t.c, .slice Er t.p er]) B t W CT.out h1 h2 ST.out
    rw [ggb] at P
    replace P := Lib.hid P
    obtain ⟨k0, k1, k2, k3⟩ := KT.out.c4
    go_wp2_with fail
    refine (P.out _ _ (RT.out.below BT.out) BT.out.size).mono ?_
    rintro e w12 ⟨rfl, hb⟩
    replace B0 := Lib.hid (below_on B0.out hb)
    replace BT := Lib.hid (below_on BT.out hb)
    replace KT := Lib.hid (KT.out.on hb)
    replace Wp1 := Lib.hid (Wp1.out.keep hb)
    replace Wp2 := Lib.hid (Wp2.out.keep hb)
    replace Wc1 := Lib.hid (own_below Wc1.out hb (Nat.le_refl _))
    replace Wc2 := Lib.hid (own_below Wc2.out hb (Nat.le_refl _))
    replace Wf1 := Lib.hid (own_below Wf1.out hb (Nat.le_refl _))
    replace Wf2 := Lib.hid (own_below Wf2.out hb (Nat.le_refl _))
    replace We1 := Lib.hid (We1.out.keep hb)
    replace We2 := Lib.hid (We2.out.keep hb)
    replace Wx1 := Lib.hid (Wx1.out.keep hb)
    replace Wx2 := Lib.hid (Wx2.out.keep hb)
    clear hb
    clear P k0 k1 k2 k3
    have P := fun (B : Nat) (W : World) (h1 : RdT W B (.agg #[.slice Ar t.n cr, .slice Dr t.m dr, .int .i64 t.c, .slice Er t.p er]) t) (h2 : B ≤ W.heap.size) => specGreatestLeast_any (.agg #[.slice Ar t.n cr, .slice Dr t.m dr, .int .i64 t.c, .slice Er t.p er]) B t W CT.out h1 h2 ST.out
    rw [ggb] at P
    replace P := Lib.hid P
    obtain ⟨k0, k1, k2, k3⟩ := KT.out.c4
    go_wp2_with fail
    refine (P.out _ _ (RT.out.below BT.out) BT.out.size).mono ?_
    rintro e w13 ⟨rfl, hb⟩
    replace B0 := Lib.hid (below_on B0.out hb)
    replace BT := Lib.hid (below_on BT.out hb)
    replace KT := Lib.hid (KT.out.on hb)
    replace Wp1 := Lib.hid (Wp1.out.keep hb)
    replace Wp2 := Lib.hid (Wp2.out.keep hb)
    replace Wc1 := Lib.hid (own_below Wc1.out hb (Nat.le_refl _))
    replace Wc2 := Lib.hid (own_below Wc2.out hb (Nat.le_refl _))
    replace Wf1 := Lib.hid (own_below Wf1.out hb (Nat.le_refl _))
    replace Wf2 := Lib.hid (own_below Wf2.out hb (Nat.le_refl _))
    replace We1 := Lib.hid (We1.out.keep hb)
    replace We2 := Lib.hid (We2.out.keep hb)
    replace Wx1 := Lib.hid (Wx1.out.keep hb)
    replace Wx2 := Lib.hid (Wx2.out.keep hb)
    clear hb
    clear P k0 k1 k2 k3
    have no : (ob != ob) = false := by simp
    have ng : (gb != gb) = false := by simp
    obtain ⟨gl, egl⟩ : ∃ q, glV t = q := ⟨_, rfl⟩
    rw [egl]
    have nl : (gl != gl) = false := by simp
    have EGL := Lib.hid egl
    clear egl
    go_wp2_with fail
    refine (sameLists_same _ _ (cpN t L) _ _ _ _ (cpL t L) _ Wp1.out Wp2.out (cp_small t L).1).mono ?_
    rintro e w14 ⟨rfl, hb⟩
    replace B0 := Lib.hid (below_on B0.out hb)
    replace BT := Lib.hid (below_on BT.out hb)
    replace KT := Lib.hid (KT.out.on hb)
    replace Wp1 := Lib.hid (Wp1.out.keep hb)
    replace Wp2 := Lib.hid (Wp2.out.keep hb)
    replace Wc1 := Lib.hid (own_below Wc1.out hb (Nat.le_refl _))
    replace Wc2 := Lib.hid (own_below Wc2.out hb (Nat.le_refl _))
    replace Wf1 := Lib.hid (own_below Wf1.out hb (Nat.le_refl _))
    replace Wf2 := Lib.hid (own_below Wf2.out hb (Nat.le_refl _))
    replace We1 := Lib.hid (We1.out.keep hb)
    replace We2 := Lib.hid (We2.out.keep hb)
    replace Wx1 := Lib.hid (Wx1.out.keep hb)
    replace Wx2 := Lib.hid (Wx2.out.keep hb)
    clear hb
    go_wp2_with fail
    refine (sameInts_same _ _ (ccN t L) _ (ccL t L) _ (Rd.of_own Wc1.out) (Rd.of_own Wc2.out) (Nat.le_refl _) (by have := (cc_small t L).1; omega)).mono ?_
    rintro e w15 ⟨rfl, hb⟩
    replace B0 := Lib.hid (below_on B0.out hb)
    replace BT := Lib.hid (below_on BT.out hb)
    replace KT := Lib.hid (KT.out.on hb)
    replace Wp1 := Lib.hid (Wp1.out.keep hb)
    replace Wp2 := Lib.hid (Wp2.out.keep hb)
    replace Wc1 := Lib.hid (own_below Wc1.out hb (Nat.le_refl _))
    replace Wc2 := Lib.hid (own_below Wc2.out hb (Nat.le_refl _))
    replace Wf1 := Lib.hid (own_below Wf1.out hb (Nat.le_refl _))
    replace Wf2 := Lib.hid (own_below Wf2.out hb (Nat.le_refl _))
    replace We1 := Lib.hid (We1.out.keep hb)
    replace We2 := Lib.hid (We2.out.keep hb)
    replace Wx1 := Lib.hid (Wx1.out.keep hb)
    replace Wx2 := Lib.hid (Wx2.out.keep hb)
    clear hb
    go_wp2_with fail
    refine (sameInts_same _ _ (fpN t L) _ (fpL t L) _ (Rd.of_own Wf1.out) (Rd.of_own Wf2.out) (Nat.le_refl _) (by have := (fp_small t L).1; omega)).mono ?_
    rintro e w16 ⟨rfl, hb⟩
    replace B0 := Lib.hid (below_on B0.out hb)
    replace BT := Lib.hid (below_on BT.out hb)
    replace KT := Lib.hid (KT.out.on hb)
    replace Wp1 := Lib.hid (Wp1.out.keep hb)
    replace Wp2 := Lib.hid (Wp2.out.keep hb)
    replace Wc1 := Lib.hid (own_below Wc1.out hb (Nat.le_refl _))
    replace Wc2 := Lib.hid (own_below Wc2.out hb (Nat.le_refl _))
    replace Wf1 := Lib.hid (own_below Wf1.out hb (Nat.le_refl _))
    replace Wf2 := Lib.hid (own_below Wf2.out hb (Nat.le_refl _))
    replace We1 := Lib.hid (We1.out.keep hb)
    replace We2 := Lib.hid (We2.out.keep hb)
    replace Wx1 := Lib.hid (Wx1.out.keep hb)
    replace Wx2 := Lib.hid (Wx2.out.keep hb)
    clear hb
    go_wp2_with fail
    refine (sameLists_same _ _ (ecN t L) _ _ _ _ (ecL t L) _ We1.out We2.out (ec_small t L).1).mono ?_
    rintro e w17 ⟨rfl, hb⟩
    replace B0 := Lib.hid (below_on B0.out hb)
    replace BT := Lib.hid (below_on BT.out hb)
    replace KT := Lib.hid (KT.out.on hb)
    replace Wp1 := Lib.hid (Wp1.out.keep hb)
    replace Wp2 := Lib.hid (Wp2.out.keep hb)
    replace Wc1 := Lib.hid (own_below Wc1.out hb (Nat.le_refl _))
    replace Wc2 := Lib.hid (own_below Wc2.out hb (Nat.le_refl _))
    replace Wf1 := Lib.hid (own_below Wf1.out hb (Nat.le_refl _))
    replace Wf2 := Lib.hid (own_below Wf2.out hb (Nat.le_refl _))
    replace We1 := Lib.hid (We1.out.keep hb)
    replace We2 := Lib.hid (We2.out.keep hb)
    replace Wx1 := Lib.hid (Wx1.out.keep hb)
    replace Wx2 := Lib.hid (Wx2.out.keep hb)
    clear hb
    go_wp2_with fail
    refine (sameLists_same _ _ (ctN t L) _ _ _ _ (ctL t L) _ Wx1.out Wx2.out (ct_small t L).1).mono ?_
    rintro e w18 ⟨rfl, hb⟩
    replace B0 := Lib.hid (below_on B0.out hb)
    replace BT := Lib.hid (below_on BT.out hb)
    replace KT := Lib.hid (KT.out.on hb)
    replace Wp1 := Lib.hid (Wp1.out.keep hb)
    replace Wp2 := Lib.hid (Wp2.out.keep hb)
    replace Wc1 := Lib.hid (own_below Wc1.out hb (Nat.le_refl _))
    replace Wc2 := Lib.hid (own_below Wc2.out hb (Nat.le_refl _))
    replace Wf1 := Lib.hid (own_below Wf1.out hb (Nat.le_refl _))
    replace Wf2 := Lib.hid (own_below Wf2.out hb (Nat.le_refl _))
    replace We1 := Lib.hid (We1.out.keep hb)
    replace We2 := Lib.hid (We2.out.keep hb)
    replace Wx1 := Lib.hid (Wx1.out.keep hb)
    replace Wx2 := Lib.hid (Wx2.out.keep hb)
    clear hb
    have HC := Lib.hid (fun f => cf_a w w18 B0.out gt Ar Dr Er cr dr er t L 0 _ _ _ _ _ _ ob ⟨by rw [← EGT.out]; exact KT.out, (RT.out.below BT.out).more BT.out.size, CT.out, ST.out, Wp2.out.base (Nat.zero_le _), own_base Wc2.out (Nat.zero_le _), own_base Wf2.out (Nat.zero_le _), Wx2.out.base (Nat.zero_le _)⟩ gob f)
    rw [EGL.out] at HC
    rw [EGT.out]
    go_upto_if 205 with (fail)
    go_step
    go_step
    go_step
    go_step
    exact wp_of_fn (by kernel_rfl) HC.out
end Go.Proofs.Ytjcepipgjpaclaa
