/- For all drawn carries both sides find the same carriers, loads, hand-overs, dropped ranges and texts, and these fit together: the walk. Condition: the library's table of powers of ten is laid. -/
import Derived.Test.YtamehlafmfmgmaaDoorCadTail
import Derived.Test.YtamehlafmfmgmaaDoorCarDraws2
import Derived.Test.YtamehlafmfmgmaaDoorTextSpec
import Derived.Test.YtamehlafmfmgmaaDoorTextImpl
import Derived.Test.YtamehlafmfmgmaaDoorCutFn2
namespace Go.Proofs.YtamehlafmfmgmaaDoor
open Go.RowKit

theorem Rows.keep {w w' : World} {lo n : Nat} {v : Value} {gs : List Nat} {rs : List (List Int)} (h : Rows w lo v n gs rs) (hb : Below w.heap.size w w') : Rows w' lo v n gs rs := h.below hb (Nat.le_refl _)
set_option maxRecDepth 100000 in
set_option maxHeartbeats 4000000 in
theorem cad_walk (w : World) (ht : Pow w) (A0 : Option Addr) (n0 c0 : Nat) (hr0 : RdB w w.heap.size A0 n0) (hm0 : n0 ≤ maxLen) (A1 : Option Addr) (n1 c1 : Nat) (hr1 : RdB w w.heap.size A1 n1) (hm1 : n1 ≤ maxLen) :
    Calls Tryd.prog 4 #[.slice A0 n0 c0, .slice A1 n1 c1] w fun e w' => e = .returned (.bool true) ∧ Below w.heap.size w w' := by
  unfold maxLen at hm0 hm1
  have H0 := Lib.hid hr0
  have H1 := Lib.hid hr1
  have B0 := Lib.hid (Below.refl w.heap.size w)
  have TT := Lib.hid ht
  clear hr0 hr1 ht
  obtain ⟨z, ez⟩ : ∃ z, IntKind.i64.wrap ((n0 : Int) + (n1 : Int)) = z := ⟨_, rfl⟩
  by_cases hz : 1048576 < z
  · have dz : decide (1048576 < z) = true := by simpa using hz
    go_enter Tryd.func4, Tryd.ntmps4
    go_wp2_with fail
    go_ret
    exact ⟨rfl, B0.out⟩
  · have dz : decide (1048576 < z) = false := by simpa using hz
    clear hz
    go_enter Tryd.func4, Tryd.ntmps4
    go_wp2_with fail
    refine (DrawDroppedRanges_any A0 n0 c0 _ H0.out hm0).mono ?_
    rintro e w1 ⟨vl, n, xs, q, a, b, rfl, hn41, hcb, ho, hb⟩
    replace B0 := Lib.hid (below_on B0.out hb)
    replace TT := Lib.hid (TT.out.keep hb)
    clear hb
    clear hcb
    have Ol := Lib.hid (Own.of ho)
    have Rl := Lib.hid Ol.out.rd
    have Bl := Lib.hid (Below.refl w1.heap.size w1)
    clear ho
    obtain ⟨ob, gob⟩ : ∃ q9, ddB n xs q a b = q9 := ⟨_, rfl⟩
    have P1 := fun (B : Nat) (W : World) (h1 : Rd W B 4 vl n xs) (h2 : B ≤ W.heap.size) => DroppedRanges_any vl n B xs q a b W Ol.out.cap h1 h2 (by omega)
    rw [gob] at P1
    replace P1 := Lib.hid P1
    have P2 := fun (B : Nat) (W : World) (h1 : Rd W B 4 vl n xs) (h2 : B ≤ W.heap.size) => specDroppedRanges_any vl n B xs q a b W Ol.out.cap h1 h2 (by omega)
    rw [gob] at P2
    replace P2 := Lib.hid P2
    replace gob := Lib.hid gob
    go_wp2_with fail
    refine (P1.out _ _ (Rl.out.below Bl.out) Bl.out.size).mono ?_
    rintro e w2 ⟨vi, gi, rfl, hrw, hb⟩
    replace B0 := Lib.hid (below_on B0.out hb)
    replace TT := Lib.hid (TT.out.keep hb)
    replace Bl := Lib.hid (below_on Bl.out hb)
    clear hb
    have Wi := Lib.hid hrw
    clear hrw
    go_wp2_with fail
    refine (P2.out _ _ (Rl.out.below Bl.out) Bl.out.size).mono ?_
    rintro e w3 ⟨vd, gs, rfl, hrw, hb⟩
    replace B0 := Lib.hid (below_on B0.out hb)
    replace TT := Lib.hid (TT.out.keep hb)
    replace Bl := Lib.hid (below_on Bl.out hb)
    replace Wi := Lib.hid (Wi.out.keep hb)
    clear hb
    have Wd := Lib.hid hrw
    clear hrw P1 P2
    go_wp2_with fail
    refine (DrawCarrierAt_any A1 n1 c1 _ (H1.out.kept B0.out) hm1).mono ?_
    rintro e w4 ⟨va, s, ks, ot, ct, rfl, hs41, hcb, ho, hb⟩
    replace B0 := Lib.hid (below_on B0.out hb)
    replace TT := Lib.hid (TT.out.keep hb)
    replace Bl := Lib.hid (below_on Bl.out hb)
    replace Wi := Lib.hid (Wi.out.keep hb)
    replace Wd := Lib.hid (Wd.out.keep hb)
    clear hb
    clear hcb
    have Oa := Lib.hid (Own.of ho)
    have Ra := Lib.hid Oa.out.rd
    have Ba := Lib.hid (Below.refl w4.heap.size w4)
    clear ho
    obtain ⟨dv, gdv⟩ : ∃ q9, crV s ks ot ct = q9 := ⟨_, rfl⟩
    obtain ⟨sb, gsb⟩ : ∃ q9, crB s ks ot ct = q9 := ⟨_, rfl⟩
    have P1 := fun (B : Nat) (W : World) (h1 : Rd W B 4 va s ks) (h2 : B ≤ W.heap.size) => CarrierAt_any va s B ks ot ct W Oa.out.cap h1 h2 (by omega)
    rw [gdv, gsb] at P1
    replace P1 := Lib.hid P1
    have P2 := fun (B : Nat) (W : World) (h1 : Rd W B 4 va s ks) (h2 : B ≤ W.heap.size) => specCarrierAt_any va s B ks ot ct W Oa.out.cap h1 h2 (by omega)
    rw [gdv, gsb] at P2
    replace P2 := Lib.hid P2
    replace gdv := Lib.hid gdv
    replace gsb := Lib.hid gsb
    go_wp2_with fail
    refine (P1.out _ _ (Ra.out.below Ba.out) Ba.out.size).mono ?_
    rintro e w5 ⟨rfl, hb⟩
    replace B0 := Lib.hid (below_on B0.out hb)
    replace TT := Lib.hid (TT.out.keep hb)
    replace Bl := Lib.hid (below_on Bl.out hb)
    replace Wi := Lib.hid (Wi.out.keep hb)
    replace Wd := Lib.hid (Wd.out.keep hb)
    replace Ba := Lib.hid (below_on Ba.out hb)
    clear hb
    go_wp2_with fail
    refine (P2.out _ _ (Ra.out.below Ba.out) Ba.out.size).mono ?_
    rintro e w6 ⟨rfl, hb⟩
    replace B0 := Lib.hid (below_on B0.out hb)
    replace TT := Lib.hid (TT.out.keep hb)
    replace Bl := Lib.hid (below_on Bl.out hb)
    replace Wi := Lib.hid (Wi.out.keep hb)
    replace Wd := Lib.hid (Wd.out.keep hb)
    replace Ba := Lib.hid (below_on Ba.out hb)
    clear hb
    clear P1 P2
    go_wp2_with fail
    refine (DrawLoadAt_any A1 n1 c1 _ (H1.out.kept B0.out) hm1).mono ?_
    rintro e w7 ⟨vb, r, zs, pe, at_, rfl, hr41, hcb, ho, hb⟩
    replace B0 := Lib.hid (below_on B0.out hb)
    replace TT := Lib.hid (TT.out.keep hb)
    replace Bl := Lib.hid (below_on Bl.out hb)
    replace Wi := Lib.hid (Wi.out.keep hb)
    replace Wd := Lib.hid (Wd.out.keep hb)
    replace Ba := Lib.hid (below_on Ba.out hb)
    clear hb
    clear hcb
    have Ob := Lib.hid (Own.of ho)
    have Rb := Lib.hid Ob.out.rd
    have Bb := Lib.hid (Below.refl w7.heap.size w7)
    clear ho
    obtain ⟨cv, gcv⟩ : ∃ q9, ldV r zs pe at_ = q9 := ⟨_, rfl⟩
    obtain ⟨tb, gtb⟩ : ∃ q9, ldB r zs pe at_ = q9 := ⟨_, rfl⟩
    have P1 := fun (B : Nat) (W : World) (h1 : Rd W B 4 vb r zs) (h2 : B ≤ W.heap.size) => LoadAt_any vb r B zs pe at_ W Ob.out.cap h1 h2 (by omega)
    rw [gcv, gtb] at P1
    replace P1 := Lib.hid P1
    have P2 := fun (B : Nat) (W : World) (h1 : Rd W B 4 vb r zs) (h2 : B ≤ W.heap.size) => specLoadAt_any vb r B zs pe at_ W Ob.out.cap h1 h2 (by omega)
    rw [gcv, gtb] at P2
    replace P2 := Lib.hid P2
    replace gcv := Lib.hid gcv
    replace gtb := Lib.hid gtb
    go_wp2_with fail
    refine (P1.out _ _ (Rb.out.below Bb.out) Bb.out.size).mono ?_
    rintro e w8 ⟨rfl, hb⟩
    replace B0 := Lib.hid (below_on B0.out hb)
    replace TT := Lib.hid (TT.out.keep hb)
    replace Bl := Lib.hid (below_on Bl.out hb)
    replace Wi := Lib.hid (Wi.out.keep hb)
    replace Wd := Lib.hid (Wd.out.keep hb)
    replace Ba := Lib.hid (below_on Ba.out hb)
    replace Bb := Lib.hid (below_on Bb.out hb)
    clear hb
    go_wp2_with fail
    refine (P2.out _ _ (Rb.out.below Bb.out) Bb.out.size).mono ?_
    rintro e w9 ⟨rfl, hb⟩
    replace B0 := Lib.hid (below_on B0.out hb)
    replace TT := Lib.hid (TT.out.keep hb)
    replace Bl := Lib.hid (below_on Bl.out hb)
    replace Wi := Lib.hid (Wi.out.keep hb)
    replace Wd := Lib.hid (Wd.out.keep hb)
    replace Ba := Lib.hid (below_on Ba.out hb)
    replace Bb := Lib.hid (below_on Bb.out hb)
    clear hb
    clear P1 P2
    go_wp2_with fail
    refine (DrawHandOversOf_any A1 n1 c1 _ (H1.out.kept B0.out) hm1).mono ?_
    rintro e w10 ⟨vu, m, us, th, rfl, hm41, hcb, ho, hb⟩
    replace B0 := Lib.hid (below_on B0.out hb)
    replace TT := Lib.hid (TT.out.keep hb)
    replace Bl := Lib.hid (below_on Bl.out hb)
    replace Wi := Lib.hid (Wi.out.keep hb)
    replace Wd := Lib.hid (Wd.out.keep hb)
    replace Ba := Lib.hid (below_on Ba.out hb)
    replace Bb := Lib.hid (below_on Bb.out hb)
    clear hb
    clear hcb
    have Ou := Lib.hid (Own.of ho)
    have Ru := Lib.hid Ou.out.rd
    have Bu := Lib.hid (Below.refl w10.heap.size w10)
    clear ho
    obtain ⟨hb9, ghb9⟩ : ∃ q9, hnB m us th = q9 := ⟨_, rfl⟩
    have P1 := fun (B : Nat) (W : World) (h1 : Rd W B 4 vu m us) (h2 : B ≤ W.heap.size) => HandOversOf_any vu m B us th W Ou.out.cap h1 h2 (by omega)
    rw [ghb9] at P1
    replace P1 := Lib.hid P1
    have P2 := fun (B : Nat) (W : World) (h1 : Rd W B 4 vu m us) (h2 : B ≤ W.heap.size) => specHandOversOf_any vu m B us th W Ou.out.cap h1 h2 (by omega)
    rw [ghb9] at P2
    replace P2 := Lib.hid P2
    replace ghb9 := Lib.hid ghb9
    go_wp2_with fail
    refine (P1.out _ _ (Ru.out.below Bu.out) Bu.out.size).mono ?_
    rintro e w11 ⟨vg, rfl, ho, hb⟩
    replace B0 := Lib.hid (below_on B0.out hb)
    replace TT := Lib.hid (TT.out.keep hb)
    replace Bl := Lib.hid (below_on Bl.out hb)
    replace Wi := Lib.hid (Wi.out.keep hb)
    replace Wd := Lib.hid (Wd.out.keep hb)
    replace Ba := Lib.hid (below_on Ba.out hb)
    replace Bb := Lib.hid (below_on Bb.out hb)
    replace Bu := Lib.hid (below_on Bu.out hb)
    clear hb
    have Og := Lib.hid (Own.of ho)
    have Rg := Lib.hid Og.out.rd
    have Bg := Lib.hid (Below.refl w11.heap.size w11)
    clear ho
    go_wp2_with fail
    refine (P2.out _ _ (Ru.out.below Bu.out) Bu.out.size).mono ?_
    rintro e w12 ⟨vh, rfl, ho, hb⟩
    replace B0 := Lib.hid (below_on B0.out hb)
    replace TT := Lib.hid (TT.out.keep hb)
    replace Bl := Lib.hid (below_on Bl.out hb)
    replace Wi := Lib.hid (Wi.out.keep hb)
    replace Wd := Lib.hid (Wd.out.keep hb)
    replace Ba := Lib.hid (below_on Ba.out hb)
    replace Bb := Lib.hid (below_on Bb.out hb)
    replace Bu := Lib.hid (below_on Bu.out hb)
    replace Bg := Lib.hid (below_on Bg.out hb)
    clear hb
    have Oh := Lib.hid (Own.of ho)
    have Rh := Lib.hid Oh.out.rd
    have Bh := Lib.hid (Below.refl w12.heap.size w12)
    clear ho
    clear P1 P2
    go_wp2_with fail
    refine (DrawCarriesText_any A1 n1 c1 _ (H1.out.kept B0.out) hm1).mono ?_
    rintro e w13 ⟨vt, j, js, rfl, hj41, hcb, ho, hb⟩
    replace B0 := Lib.hid (below_on B0.out hb)
    replace TT := Lib.hid (TT.out.keep hb)
    replace Bl := Lib.hid (below_on Bl.out hb)
    replace Wi := Lib.hid (Wi.out.keep hb)
    replace Wd := Lib.hid (Wd.out.keep hb)
    replace Ba := Lib.hid (below_on Ba.out hb)
    replace Bb := Lib.hid (below_on Bb.out hb)
    replace Bu := Lib.hid (below_on Bu.out hb)
    replace Bg := Lib.hid (below_on Bg.out hb)
    replace Bh := Lib.hid (below_on Bh.out hb)
    clear hb
    clear hcb
    have Ot := Lib.hid (Own.of ho)
    have Rt := Lib.hid Ot.out.rd
    have Bt := Lib.hid (Below.refl w13.heap.size w13)
    clear ho
    obtain ⟨xt, gxt⟩ : ∃ q9, txt (ctL j js) = q9 := ⟨_, rfl⟩
    obtain ⟨xb, gxb⟩ : ∃ q9, gcB j js = q9 := ⟨_, rfl⟩
    have P1 := fun (B : Nat) (W : World) (hp : Pow W) (h1 : Rd W B 4 vt j js) (h2 : B ≤ W.heap.size) => CarriesText_any vt j B js W hp Ot.out.cap h1 h2 (by omega)
    rw [gxt, gxb] at P1
    replace P1 := Lib.hid P1
    have P2 := fun (B : Nat) (W : World) (h1 : Rd W B 4 vt j js) (h2 : B ≤ W.heap.size) => specCarriesText_any vt j B js W Ot.out.cap h1 h2 (by omega)
    rw [gxt, gxb] at P2
    replace P2 := Lib.hid P2
    have P3 := fun (B : Nat) (W : World) (h1 : Rd W B 4 vt j js) (h2 : B ≤ W.heap.size) => AreCarries_any vt j B js W Ot.out.cap h1 h2 (by omega)
    rw [gxb] at P3
    replace P3 := Lib.hid P3
    clear gxt gxb
    go_wp2_with fail
    refine (P1.out _ _ TT.out (Rt.out.below Bt.out) Bt.out.size).mono ?_
    rintro e w14 ⟨rfl, hb⟩
    replace B0 := Lib.hid (below_on B0.out hb)
    replace TT := Lib.hid (TT.out.keep hb)
    replace Bl := Lib.hid (below_on Bl.out hb)
    replace Wi := Lib.hid (Wi.out.keep hb)
    replace Wd := Lib.hid (Wd.out.keep hb)
    replace Ba := Lib.hid (below_on Ba.out hb)
    replace Bb := Lib.hid (below_on Bb.out hb)
    replace Bu := Lib.hid (below_on Bu.out hb)
    replace Bg := Lib.hid (below_on Bg.out hb)
    replace Bh := Lib.hid (below_on Bh.out hb)
    replace Bt := Lib.hid (below_on Bt.out hb)
    clear hb
    go_wp2_with fail
    refine (P2.out _ _ (Rt.out.below Bt.out) Bt.out.size).mono ?_
    rintro e w15 ⟨rfl, hb⟩
    replace B0 := Lib.hid (below_on B0.out hb)
    replace TT := Lib.hid (TT.out.keep hb)
    replace Bl := Lib.hid (below_on Bl.out hb)
    replace Wi := Lib.hid (Wi.out.keep hb)
    replace Wd := Lib.hid (Wd.out.keep hb)
    replace Ba := Lib.hid (below_on Ba.out hb)
    replace Bb := Lib.hid (below_on Bb.out hb)
    replace Bu := Lib.hid (below_on Bu.out hb)
    replace Bg := Lib.hid (below_on Bg.out hb)
    replace Bh := Lib.hid (below_on Bh.out hb)
    replace Bt := Lib.hid (below_on Bt.out hb)
    clear hb
    clear P1 P2
    have qob : (ob != ob) = false := by simp
    have qsb : (sb != sb) = false := by simp
    have qdv : (dv != dv) = false := by simp
    have qtb : (tb != tb) = false := by simp
    have qcv : (cv != cv) = false := by simp
    have qhb9 : (hb9 != hb9) = false := by simp
    have qxb : (xb != xb) = false := by simp
    have qxt : (xt.toList != xt.toList) = false := by simp
    have qxu : (xt.toList == xt.toList) = true := by simp
    go_wp2_with fail
    refine (qLists_same vi vd (ddN n xs q a b) _ _ gi gs (ddL n xs q a b) _ Wi.out Wd.out (dd_small n xs q a b).1).mono ?_
    rintro e w16 ⟨rfl, hb⟩
    replace B0 := Lib.hid (below_on B0.out hb)
    replace TT := Lib.hid (TT.out.keep hb)
    replace Bl := Lib.hid (below_on Bl.out hb)
    replace Wi := Lib.hid (Wi.out.keep hb)
    replace Wd := Lib.hid (Wd.out.keep hb)
    replace Ba := Lib.hid (below_on Ba.out hb)
    replace Bb := Lib.hid (below_on Bb.out hb)
    replace Bu := Lib.hid (below_on Bu.out hb)
    replace Bg := Lib.hid (below_on Bg.out hb)
    replace Bh := Lib.hid (below_on Bh.out hb)
    replace Bt := Lib.hid (below_on Bt.out hb)
    clear hb
    go_wp2_with fail
    refine (qInts_same vg vh (hnN m us th) _ (hnL m us th) _ ((Rg.out.below Bg.out).more Bg.out.size) ((Rh.out.below Bh.out).more Bh.out.size) (Nat.le_refl _) (by have := hnN_le m us th; omega)).mono ?_
    rintro e w17 ⟨rfl, hb⟩
    replace B0 := Lib.hid (below_on B0.out hb)
    replace TT := Lib.hid (TT.out.keep hb)
    replace Bl := Lib.hid (below_on Bl.out hb)
    replace Wi := Lib.hid (Wi.out.keep hb)
    replace Wd := Lib.hid (Wd.out.keep hb)
    replace Ba := Lib.hid (below_on Ba.out hb)
    replace Bb := Lib.hid (below_on Bb.out hb)
    replace Bu := Lib.hid (below_on Bu.out hb)
    replace Bg := Lib.hid (below_on Bg.out hb)
    replace Bh := Lib.hid (below_on Bh.out hb)
    replace Bt := Lib.hid (below_on Bt.out hb)
    clear hb
    go_wp2_with fail
    refine (P3.out _ _ (Rt.out.below Bt.out) Bt.out.size).mono ?_
    rintro e w18 ⟨rfl, hb⟩
    replace B0 := Lib.hid (below_on B0.out hb)
    replace TT := Lib.hid (TT.out.keep hb)
    replace Bl := Lib.hid (below_on Bl.out hb)
    replace Wi := Lib.hid (Wi.out.keep hb)
    replace Wd := Lib.hid (Wd.out.keep hb)
    replace Ba := Lib.hid (below_on Ba.out hb)
    replace Bb := Lib.hid (below_on Bb.out hb)
    replace Bu := Lib.hid (below_on Bu.out hb)
    replace Bg := Lib.hid (below_on Bg.out hb)
    replace Bh := Lib.hid (below_on Bh.out hb)
    replace Bt := Lib.hid (below_on Bt.out hb)
    clear hb
    have HC := Lib.hid (cad_e w w18 B0.out vl vd n _ gs xs q a b ob ⟨((Rl.out.below Bl.out).more Bl.out.size), Ol.out.cap, hn41, Wd.out⟩ gob.out vu vh m us th ⟨((Ru.out.below Bu.out).more Bu.out.size), Ou.out.cap, hm41, ((Rh.out.below Bh.out).more Bh.out.size)⟩ vb r zs pe at_ cv tb ⟨((Rb.out.below Bb.out).more Bb.out.size), Ob.out.cap, hr41⟩ gtb.out gcv.out va s ks ot ct dv sb ⟨((Ra.out.below Ba.out).more Ba.out.size), Oa.out.cap, hs41⟩ gsb.out gdv.out)
    go_upto_if 217 with (fail)
    go_step
    go_step
    go_step
    go_step
    exact wp_of_fn (by kernel_rfl) HC.out
end Go.Proofs.YtamehlafmfmgmaaDoor
