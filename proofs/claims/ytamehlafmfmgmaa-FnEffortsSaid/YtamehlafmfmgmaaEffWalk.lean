/- For all drawn carries both sides split and weigh them alike, and what they say of the longest carry, of those who carry too long and of the fewest carriers holds: the walk. Without conditions. -/
import Derived.Test.YtamehlafmfmgmaaEffD
import Derived.Test.YtamehlafmfmgmaaSplitSpec
import Derived.Test.YtamehlafmfmgmaaCarDraws2
import Derived.Test.YtamehlafmfmgmaaFewest
import Derived.Test.YtamehlafmfmgmaaCutFn2
namespace Go.Proofs.Ytamehlafmfmgmaa
open Go.RowKit

set_option maxRecDepth 100000 in
set_option maxHeartbeats 4000000 in
theorem eff_walk (w : World) (A0 : Option Addr) (n0 c0 : Nat) (hr0 : RdB w w.heap.size A0 n0) (hm0 : n0 ≤ maxLen) (A1 : Option Addr) (n1 c1 : Nat) (hr1 : RdB w w.heap.size A1 n1) (hm1 : n1 ≤ maxLen) :
    Calls Try.prog 4 #[.slice A0 n0 c0, .slice A1 n1 c1] w fun e w' => e = .returned (.bool true) ∧ Below w.heap.size w w' := by
  unfold maxLen at hm0 hm1
  have H0 := Lib.hid hr0
  have H1 := Lib.hid hr1
  have B0 := Lib.hid (Below.refl w.heap.size w)
  clear hr0 hr1
  obtain ⟨z, ez⟩ : ∃ z, IntKind.i64.wrap ((n0 : Int) + (n1 : Int)) = z := ⟨_, rfl⟩
  by_cases hz : 1048576 < z
  · have dz : decide (1048576 < z) = true := by simpa using hz
    go_enter Try.func4, Try.ntmps4
    go_wp2_with fail
    go_ret
    exact ⟨rfl, B0.out⟩
  · have dz : decide (1048576 < z) = false := by simpa using hz
    clear hz
    go_enter Try.func4, Try.ntmps4
    go_wp2_with fail
    refine (DrawSplitCarry_any A0 n0 c0 _ H0.out hm0).mono ?_
    rintro e w1 ⟨vl, n, xs, i, t, q, rfl, hn41, hcb, ho, hb⟩
    replace B0 := Lib.hid (below_on B0.out hb)
    clear hb
    clear hcb
    have Ol := Lib.hid (Own.of ho)
    have Rl := Lib.hid Ol.out.rd
    have Bl := Lib.hid (Below.refl w1.heap.size w1)
    clear ho
    obtain ⟨sb, gsb⟩ : ∃ q9, spB n xs i t q = q9 := ⟨_, rfl⟩
    have P1 := fun (B : Nat) (W : World) (h1 : Rd W B 4 vl n xs) (h2 : B ≤ W.heap.size) => SplitCarry_any vl n B xs i t q W Ol.out.cap h1 h2 (by omega)
    rw [gsb] at P1
    replace P1 := Lib.hid P1
    have P2 := fun (B : Nat) (W : World) (h1 : Rd W B 4 vl n xs) (h2 : B ≤ W.heap.size) => specSplitCarry_any vl n B xs i t q W Ol.out.cap h1 h2 (by omega)
    rw [gsb] at P2
    replace P2 := Lib.hid P2
    replace gsb := Lib.hid gsb
    go_wp2_with fail
    refine (P1.out _ _ (Rl.out.below Bl.out) Bl.out.size).mono ?_
    rintro e w2 ⟨vs, rfl, ho, hb⟩
    replace B0 := Lib.hid (below_on B0.out hb)
    replace Bl := Lib.hid (below_on Bl.out hb)
    clear hb
    have Os := Lib.hid (Own.of ho)
    have Rs := Lib.hid Os.out.rd
    have Bs := Lib.hid (Below.refl w2.heap.size w2)
    clear ho
    go_wp2_with fail
    refine (P2.out _ _ (Rl.out.below Bl.out) Bl.out.size).mono ?_
    rintro e w3 ⟨vp, rfl, ho, hb⟩
    replace B0 := Lib.hid (below_on B0.out hb)
    replace Bl := Lib.hid (below_on Bl.out hb)
    replace Bs := Lib.hid (below_on Bs.out hb)
    clear hb
    have Op := Lib.hid (Own.of ho)
    have Rp := Lib.hid Op.out.rd
    have Bp := Lib.hid (Below.refl w3.heap.size w3)
    clear ho
    clear P1 P2
    go_wp2_with fail
    refine (DrawLongestCarry_any A1 n1 c1 _ (H1.out.kept B0.out) hm1).mono ?_
    rintro e w4 ⟨ua, r, zs, who, rfl, hr41, hcb, ho, hb⟩
    replace B0 := Lib.hid (below_on B0.out hb)
    replace Bl := Lib.hid (below_on Bl.out hb)
    replace Bs := Lib.hid (below_on Bs.out hb)
    replace Bp := Lib.hid (below_on Bp.out hb)
    clear hb
    clear hcb
    have Oa := Lib.hid (Own.of ho)
    have Ra := Lib.hid Oa.out.rd
    have Ba := Lib.hid (Below.refl w4.heap.size w4)
    clear ho
    obtain ⟨lf, glf⟩ : ∃ q9, lcF r zs who = q9 := ⟨_, rfl⟩
    obtain ⟨lt, glt⟩ : ∃ q9, lcT r zs who = q9 := ⟨_, rfl⟩
    obtain ⟨ob, gob⟩ : ∃ q9, lcB r zs who = q9 := ⟨_, rfl⟩
    have P1 := fun (B : Nat) (W : World) (h1 : Rd W B 4 ua r zs) (h2 : B ≤ W.heap.size) => LongestCarry_any ua r B zs who W Oa.out.cap h1 h2 (by omega)
    rw [glf, glt, gob] at P1
    replace P1 := Lib.hid P1
    have P2 := fun (B : Nat) (W : World) (h1 : Rd W B 4 ua r zs) (h2 : B ≤ W.heap.size) => specLongestCarry_any ua r B zs who W Oa.out.cap h1 h2 (by omega)
    rw [glf, glt, gob] at P2
    replace P2 := Lib.hid P2
    replace glf := Lib.hid glf
    replace glt := Lib.hid glt
    replace gob := Lib.hid gob
    go_wp2_with fail
    refine (P1.out _ _ (Ra.out.below Ba.out) Ba.out.size).mono ?_
    rintro e w5 ⟨rfl, hb⟩
    replace B0 := Lib.hid (below_on B0.out hb)
    replace Bl := Lib.hid (below_on Bl.out hb)
    replace Bs := Lib.hid (below_on Bs.out hb)
    replace Bp := Lib.hid (below_on Bp.out hb)
    replace Ba := Lib.hid (below_on Ba.out hb)
    clear hb
    go_wp2_with fail
    refine (P2.out _ _ (Ra.out.below Ba.out) Ba.out.size).mono ?_
    rintro e w6 ⟨rfl, hb⟩
    replace B0 := Lib.hid (below_on B0.out hb)
    replace Bl := Lib.hid (below_on Bl.out hb)
    replace Bs := Lib.hid (below_on Bs.out hb)
    replace Bp := Lib.hid (below_on Bp.out hb)
    replace Ba := Lib.hid (below_on Ba.out hb)
    clear hb
    clear P1 P2
    go_wp2_with fail
    refine (DrawTooLong_any A1 n1 c1 _ (H1.out.kept B0.out) hm1).mono ?_
    rintro e w7 ⟨ub, m, ys, lim, rfl, hm41, hcb, ho, hb⟩
    replace B0 := Lib.hid (below_on B0.out hb)
    replace Bl := Lib.hid (below_on Bl.out hb)
    replace Bs := Lib.hid (below_on Bs.out hb)
    replace Bp := Lib.hid (below_on Bp.out hb)
    replace Ba := Lib.hid (below_on Ba.out hb)
    clear hb
    clear hcb
    have Ob := Lib.hid (Own.of ho)
    have Rb := Lib.hid Ob.out.rd
    have Bb := Lib.hid (Below.refl w7.heap.size w7)
    clear ho
    obtain ⟨tb, gtb⟩ : ∃ q9, tlB m ys lim = q9 := ⟨_, rfl⟩
    have P1 := fun (B : Nat) (W : World) (h1 : Rd W B 4 ub m ys) (h2 : B ≤ W.heap.size) => TooLong_any ub m B ys lim W Ob.out.cap h1 h2 (by omega)
    rw [gtb] at P1
    replace P1 := Lib.hid P1
    have P2 := fun (B : Nat) (W : World) (h1 : Rd W B 4 ub m ys) (h2 : B ≤ W.heap.size) => specTooLong_any ub m B ys lim W Ob.out.cap h1 h2 (by omega)
    rw [gtb] at P2
    replace P2 := Lib.hid P2
    replace gtb := Lib.hid gtb
    go_wp2_with fail
    refine (P1.out _ _ (Rb.out.below Bb.out) Bb.out.size).mono ?_
    rintro e w8 ⟨vi, rfl, ho, hb⟩
    replace B0 := Lib.hid (below_on B0.out hb)
    replace Bl := Lib.hid (below_on Bl.out hb)
    replace Bs := Lib.hid (below_on Bs.out hb)
    replace Bp := Lib.hid (below_on Bp.out hb)
    replace Ba := Lib.hid (below_on Ba.out hb)
    replace Bb := Lib.hid (below_on Bb.out hb)
    clear hb
    have Oi := Lib.hid (Own.of ho)
    have Ri := Lib.hid Oi.out.rd
    have Bi := Lib.hid (Below.refl w8.heap.size w8)
    clear ho
    go_wp2_with fail
    refine (P2.out _ _ (Rb.out.below Bb.out) Bb.out.size).mono ?_
    rintro e w9 ⟨vt, rfl, ho, hb⟩
    replace B0 := Lib.hid (below_on B0.out hb)
    replace Bl := Lib.hid (below_on Bl.out hb)
    replace Bs := Lib.hid (below_on Bs.out hb)
    replace Bp := Lib.hid (below_on Bp.out hb)
    replace Ba := Lib.hid (below_on Ba.out hb)
    replace Bb := Lib.hid (below_on Bb.out hb)
    replace Bi := Lib.hid (below_on Bi.out hb)
    clear hb
    have Ot := Lib.hid (Own.of ho)
    have Rt := Lib.hid Ot.out.rd
    have Bt := Lib.hid (Below.refl w9.heap.size w9)
    clear ho
    clear P1 P2
    go_wp2_with fail
    refine (DrawEffortOf_any A1 n1 c1 _ (H1.out.kept B0.out) hm1).mono ?_
    rintro e w10 ⟨uc, k, ks, uw, j, js, o, rfl, hj10, ho2, hk41, hcb, ho, hb⟩
    replace B0 := Lib.hid (below_on B0.out hb)
    replace Bl := Lib.hid (below_on Bl.out hb)
    replace Bs := Lib.hid (below_on Bs.out hb)
    replace Bp := Lib.hid (below_on Bp.out hb)
    replace Ba := Lib.hid (below_on Ba.out hb)
    replace Bb := Lib.hid (below_on Bb.out hb)
    replace Bi := Lib.hid (below_on Bi.out hb)
    replace Bt := Lib.hid (below_on Bt.out hb)
    clear hb
    clear hcb
    have Oc := Lib.hid (Own.of ho)
    have Rc := Lib.hid Oc.out.rd
    have Bc := Lib.hid (Below.refl w10.heap.size w10)
    clear ho
    have Ow := Lib.hid (Own.of ho2)
    have Rw := Lib.hid Ow.out.rd
    have Bw := Lib.hid (Below.refl w10.heap.size w10)
    clear ho2
    have hwl := Lib.hid (show js.length = j by have := Rw.out.1; omega)
    obtain ⟨ev, gev⟩ : ∃ q9, efV k ks j js o = q9 := ⟨_, rfl⟩
    obtain ⟨eb, geb⟩ : ∃ q9, efB k ks j js o = q9 := ⟨_, rfl⟩
    have P1 := fun (B : Nat) (W : World) (h1 : Rd W B 4 uc k ks) (h3 : Rd W B 1 uw j js) (h2 : B ≤ W.heap.size) => EffortOf_any uc k B ks uw j js o W Oc.out.cap h1 h3 h2 (by omega) (by omega)
    rw [gev, geb] at P1
    replace P1 := Lib.hid P1
    have P2 := fun (B : Nat) (W : World) (h1 : Rd W B 4 uc k ks) (h3 : Rd W B 1 uw j js) (h2 : B ≤ W.heap.size) => specEffortOf_any uc k B ks uw j js o W Oc.out.cap h1 h3 h2 (by omega) (by omega)
    rw [gev, geb] at P2
    replace P2 := Lib.hid P2
    replace gev := Lib.hid gev
    replace geb := Lib.hid geb
    go_wp2_with fail
    refine (P1.out _ _ ((Rc.out.below Bc.out).more Bc.out.size) ((Rw.out.below Bw.out).more Bw.out.size) (Nat.le_refl _)).mono ?_
    rintro e w11 ⟨rfl, hb⟩
    replace B0 := Lib.hid (below_on B0.out hb)
    replace Bl := Lib.hid (below_on Bl.out hb)
    replace Bs := Lib.hid (below_on Bs.out hb)
    replace Bp := Lib.hid (below_on Bp.out hb)
    replace Ba := Lib.hid (below_on Ba.out hb)
    replace Bb := Lib.hid (below_on Bb.out hb)
    replace Bi := Lib.hid (below_on Bi.out hb)
    replace Bt := Lib.hid (below_on Bt.out hb)
    replace Bc := Lib.hid (below_on Bc.out hb)
    replace Bw := Lib.hid (below_on Bw.out hb)
    clear hb
    go_wp2_with fail
    refine (P2.out _ _ ((Rc.out.below Bc.out).more Bc.out.size) ((Rw.out.below Bw.out).more Bw.out.size) (Nat.le_refl _)).mono ?_
    rintro e w12 ⟨rfl, hb⟩
    replace B0 := Lib.hid (below_on B0.out hb)
    replace Bl := Lib.hid (below_on Bl.out hb)
    replace Bs := Lib.hid (below_on Bs.out hb)
    replace Bp := Lib.hid (below_on Bp.out hb)
    replace Ba := Lib.hid (below_on Ba.out hb)
    replace Bb := Lib.hid (below_on Bb.out hb)
    replace Bi := Lib.hid (below_on Bi.out hb)
    replace Bt := Lib.hid (below_on Bt.out hb)
    replace Bc := Lib.hid (below_on Bc.out hb)
    replace Bw := Lib.hid (below_on Bw.out hb)
    clear hb
    clear P1 P2
    go_wp2_with fail
    refine (DrawFewestCarriers_any A1 n1 c1 _ (H1.out.kept B0.out) hm1).mono ?_
    rintro e w13 ⟨a, b, c, d, rfl, hbd, hb⟩
    replace B0 := Lib.hid (below_on B0.out hb)
    replace Bl := Lib.hid (below_on Bl.out hb)
    replace Bs := Lib.hid (below_on Bs.out hb)
    replace Bp := Lib.hid (below_on Bp.out hb)
    replace Ba := Lib.hid (below_on Ba.out hb)
    replace Bb := Lib.hid (below_on Bb.out hb)
    replace Bi := Lib.hid (below_on Bi.out hb)
    replace Bt := Lib.hid (below_on Bt.out hb)
    replace Bc := Lib.hid (below_on Bc.out hb)
    replace Bw := Lib.hid (below_on Bw.out hb)
    clear hb
    obtain ⟨fv, gfv⟩ : ∃ q9, fcV a b c d = q9 := ⟨_, rfl⟩
    obtain ⟨fb, gfb⟩ : ∃ q9, fcB a b c d = q9 := ⟨_, rfl⟩
    have P1 := fun W => FewestCarriers_any a b c d hbd W
    rw [gfv, gfb] at P1
    replace P1 := Lib.hid P1
    have P2 := fun W => specFewestCarriers_any a b c d hbd W
    rw [gfv, gfb] at P2
    replace P2 := Lib.hid P2
    replace gfv := Lib.hid gfv
    replace gfb := Lib.hid gfb
    clear hbd
    go_wp2_with fail
    refine (P1.out _).mono ?_
    rintro e w' ⟨rfl, rfl⟩
    go_wp2_with fail
    refine (P2.out _).mono ?_
    rintro e w' ⟨rfl, rfl⟩
    clear P1 P2
    have qsb : (sb != sb) = false := by simp
    have qob : (ob != ob) = false := by simp
    have qlf : (lf != lf) = false := by simp
    have qlt : (lt != lt) = false := by simp
    have qtb : (tb != tb) = false := by simp
    have qeb : (eb != eb) = false := by simp
    have qev : (ev != ev) = false := by simp
    have qfb : (fb != fb) = false := by simp
    have qfv : (fv != fv) = false := by simp
    go_wp2_with fail
    refine (qCarries_same vs vp (spN n xs i t q) _ (spL n xs i t q) _ ((Rs.out.below Bs.out).more Bs.out.size) ((Rp.out.below Bp.out).more Bp.out.size) (Nat.le_refl _) (by have := spN_le n xs i t q; omega)).mono ?_
    rintro e w14 ⟨rfl, hb⟩
    replace B0 := Lib.hid (below_on B0.out hb)
    replace Bl := Lib.hid (below_on Bl.out hb)
    replace Bs := Lib.hid (below_on Bs.out hb)
    replace Bp := Lib.hid (below_on Bp.out hb)
    replace Ba := Lib.hid (below_on Ba.out hb)
    replace Bb := Lib.hid (below_on Bb.out hb)
    replace Bi := Lib.hid (below_on Bi.out hb)
    replace Bt := Lib.hid (below_on Bt.out hb)
    replace Bc := Lib.hid (below_on Bc.out hb)
    replace Bw := Lib.hid (below_on Bw.out hb)
    clear hb
    go_wp2_with fail
    refine (qInts_same vi vt (tlN m ys lim) _ (tlL m ys lim) _ ((Ri.out.below Bi.out).more Bi.out.size) ((Rt.out.below Bt.out).more Bt.out.size) (Nat.le_refl _) (by have := tlN_le m ys lim; omega)).mono ?_
    rintro e w15 ⟨rfl, hb⟩
    replace B0 := Lib.hid (below_on B0.out hb)
    replace Bl := Lib.hid (below_on Bl.out hb)
    replace Bs := Lib.hid (below_on Bs.out hb)
    replace Bp := Lib.hid (below_on Bp.out hb)
    replace Ba := Lib.hid (below_on Ba.out hb)
    replace Bb := Lib.hid (below_on Bb.out hb)
    replace Bi := Lib.hid (below_on Bi.out hb)
    replace Bt := Lib.hid (below_on Bt.out hb)
    replace Bc := Lib.hid (below_on Bc.out hb)
    replace Bw := Lib.hid (below_on Bw.out hb)
    clear hb
    have HC := Lib.hid (eff_d w w15 B0.out vl vs vp n xs i t q sb ⟨((Rl.out.below Bl.out).more Bl.out.size), ((Rs.out.below Bs.out).more Bs.out.size), Os.out.cap, Rp.out.form4⟩ gsb.out eb fb ev a b c d fv (fun h => by rw [← gev.out]; exact ef_pos hwl.out (geb.out.trans h)) (fun h => few_law (gfb.out.trans h) gfv.out) ub vt m ys lim tb ⟨((Rb.out.below Bb.out).more Bb.out.size), Ob.out.cap, hm41, ((Rt.out.below Bt.out).more Bt.out.size)⟩ gtb.out ua r zs who lf lt ob ⟨((Ra.out.below Ba.out).more Ba.out.size), Oa.out.cap, hr41⟩ (fun h => long_law (gob.out.trans h) glf.out glt.out))
    go_upto_if 223 with (fail)
    go_step
    go_step
    go_step
    go_step
    exact wp_of_fn (by kernel_rfl) HC.out
end Go.Proofs.Ytamehlafmfmgmaa
