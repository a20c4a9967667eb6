/- The law on conflicts from its last test on. Conditions: what both sides have returned. -/
import Derived.Test.YtjcepipgjpaclaaPFnConflicts10
import Derived.Test.YtjcepipgjpaclaaPFnConflicts29
import Derived.Test.YtjcepipgjpaclaaPFnConflicts24
import Derived.Test.YtjcepipgjpaclaaPFnConflicts13
import Derived.Test.YtjcepipgjpaclaaPFnConflicts31
import Derived.BigQuiet
import Derived.Deep.QuietTactic
namespace Go.Proofs.Ytjcepipgjpaclaa
open Go.RowKit

theorem sumTo_in {xs : List Int} {b : Int} (h : ∀ j, 0 ≤ xs.getD j 0 ∧ xs.getD j 0 ≤ b) : ∀ k : Nat, 0 ≤ sumTo xs k ∧ sumTo xs k ≤ (k : Int) * b
  | 0 => by simp [sumTo]
  | k + 1 => by
    have h1 := sumTo_in h k
    have h2 := h k
    rw [sumTo]
    have e : ((k + 1 : Nat) : Int) * b = (k : Int) * b + b := by rw [show ((k + 1 : Nat) : Int) = (k : Int) + 1 by omega, Int.add_mul, Int.one_mul]
    omega
structure CfA (W : World) (gt : Nat) (A C D : Option Addr) (ca cb cc : Nat) (t : TrN) (L : Int) (lo : Nat) (vp vc vf vt : Value) (gp gq : List Nat) : Prop where
  k : Blk W gt 27 #[.slice A t.n ca, .slice C t.m cb, .int .i64 t.c, .slice D t.p cc]
  r : RdT W W.heap.size (.agg #[.slice A t.n ca, .slice C t.m cb, .int .i64 t.c, .slice D t.p cc]) t
  c : CapT (.agg #[.slice A t.n ca, .slice C t.m cb, .int .i64 t.c, .slice D t.p cc])
  s : t.small
  p : Rows W lo vp (cpN t L) gp (cpL t L)
  n : W.ownsRow lo 3 1 vc (ccN t L) (ints (ccL t L))
  f : W.ownsRow lo 3 1 vf (fpN t L) (ints (fpL t L))
  x : Rows W lo vt (ctN t L) gq (ctL t L)
noncomputable def cfBody : Code := (Try.f3.body).getD .skip
set_option maxRecDepth 100000 in
set_option maxHeartbeats 4000000 in
theorem cf_a (w W : World) (hB : Below w.heap.size w W) (gt : Nat) (A C D : Option Addr) (ca cb cc : Nat) (t : TrN) (L : Int) (lo : Nat) (vp vc vf vt : Value) (gp gq : List Nat) (ob : Bool) (hA : CfA W gt A C D ca cb cc t L lo vp vc vf vt gp gq) (hob : cpB t L = ob) (f : Nat → Value) :
    Code.wp Try.prog (tailOf 16 cfBody) (bodyPost Try.prog Try.f3 (fun e w' => e = .returned (.bool true) ∧ Below w.heap.size w w')) ⟨#[f 0, f 1, f 2, f 3, f 4, .pointer (some ⟨gt, 0, none⟩), .int .i64 L, f 7, .bool ob, vp, f 10, f 11, f 12, vc, f 14, f 15, f 16, vf, f 18, f 19, f 20, f 21, f 22, f 23, f 24, vt, f 26, f 27, f 28, .int .i64 (glV t), f 30, f 31, f 32, f 33, f 34, f 35, f 36, f 37, f 38, f 39, f 40, f 41, f 42, f 43, f 44, f 45, f 46, f 47, f 48, f 49, f 50, f 51, f 52, f 53, f 54, f 55, f 56, f 57, f 58, f 59, f 60, f 61, f 62, f 63, f 64, f 65, f 66, f 67, f 68, f 69, f 70, f 71, f 72, f 73, f 74, f 75, f 76, f 77, f 78, f 79, f 80, f 81, f 82, f 83, f 84, f 85, f 86, f 87, f 88, f 89, f 90, f 91, f 92, f 93, f 94, f 95, f 96, f 97, f 98, f 99, f 100, f 101, f 102, f 103, f 104, f 105, f 106, f 107, f 108, f 109, f 110, f 111, f 112, f 113, f 114, f 115, f 116, f 117, f 118, f 119, f 120, f 121, f 122, f 123, f 124, f 125, f 126, f 127, f 128, f 129, f 130, f 131, f 132, f 133, f 134, f 135, f 136, f 137, f 138, f 139, f 140, f 141, f 142, f 143, f 144, f 145, f 146, f 147, f 148, f 149, f 150, f 151, f 152, f 153, f 154, f 155, f 156, f 157, f 158, f 159, f 160, f 161, f 162, f 163, f 164, f 165, f 166, f 167, f 168, f 169, f 170, f 171, f 172, f 173, f 174, f 175, f 176, f 177, f 178, f 179, f 180, f 181, f 182, f 183, f 184, f 185, f 186, f 187, f 188, f 189, f 190, f 191, f 192, f 193, f 194, f 195, f 196, f 197, f 198, f 199, f 200, f 201, f 202, f 203, f 204, f 205, f 206, f 207, f 208, f 209, f 210, f 211, f 212, f 213, f 214, f 215, f 216, f 217, f 218, f 219, f 220, f 221, f 222, f 223, f 224, f 225, f 226, f 227, f 228, f 229, f 230, f 231, f 232, f 233, f 234, f 235, f 236, f 237, f 238, f 239, f 240, f 241, f 242, f 243, f 244, f 245, f 246, f 247, f 248, f 249, f 250, f 251, f 252, f 253, f 254, f 255, f 256, f 257, f 258, f 259, f 260, f 261, f 262, f 263, f 264, f 265, f 266, f 267, f 268, f 269, f 270, f 271, f 272, f 273, f 274, f 275, f 276, f 277, f 278, f 279, f 280, f 281, f 282, f 283, f 284, f 285, f 286, f 287, f 288, f 289, f 290, f 291, f 292, f 293, f 294, f 295, f 296, f 297, f 298, f 299, f 300, f 301, f 302, f 303, f 304, f 305, f 306, f 307, f 308, f 309, f 310, f 311, f 312, f 313, f 314, f 315, f 316, f 317, f 318, f 319, f 320, f 321, f 322, f 323, f 324, f 325, f 326, f 327, f 328, f 329, f 330, f 331, f 332, f 333, f 334, f 335, f 336, f 337, f 338, f 339, f 340, f 341, f 342, f 343, f 344, f 345, f 346, f 347, f 348, f 349, f 350, f 351, f 352, f 353, f 354, f 355, f 356, f 357], []⟩ W := by
  conv => arg 2; whnf
  have HA := Lib.hid hA
  have B0 := Lib.hid hB
  clear hA hB
  cases ob with
  | false =>
    clear hob
    go_wp2_with fail
    go_ret
    exact ⟨rfl, B0.out⟩
  | true =>
    have hok2 := hob
    simp only [cpB, Bool.and_eq_true] at hok2
    obtain ⟨htr, hin⟩ := hok2
    obtain ⟨l0, l1⟩ := inB_yes hin
    have hok := tr_ok htr
    have HOK := Lib.hid hok
    have n0 := hok.n0
    have n1 := hok.n1
    have P1 := Lib.hid (fun W' (hb : Below W.heap.size W W') => TransitionMoves_any _ _ t W' HA.out.c (HA.out.r.below hb) hb.size HA.out.s htr)
    have P2 := Lib.hid (fun W' (hb : Below W.heap.size W W') => specTransitionMoves_any _ _ t W' HA.out.c (HA.out.r.below hb) hb.size HA.out.s htr)
    obtain ⟨-, eL, eN⟩ := cp_yes hob
    obtain ⟨-, eCL, eCN⟩ := cc_yes hob
    obtain ⟨-, eFL, eFN⟩ := fp_yes hob
    obtain ⟨-, eXL, eXN⟩ := ct_yes hob
    have hrp := HA.out.p
    have hrc := HA.out.n
    have hrf := HA.out.f
    have hrx := HA.out.x
    have hk := HA.out.k
    have hgv := (gl_yes htr).2
    have hglaw := gl_law hok l0 l1
    have hml := (pr_small (p := cfAt t L) n1).1
    have hsum := cc_sum (p := cfAt t L) (n := t.n) _ (Nat.le_refl _)
    have hcin := ccTo_in (prTo (cfAt t L) t.n t.n) t.n (prTo (cfAt t L) t.n t.n).length
    rw [eXN, eXL] at hrx
    rw [eFN, eFL, eCL] at hrf
    rw [eCN, eCL] at hrc
    rw [eN, eL] at hrp hrf hrc hrx
    rw [← hgv] at hglaw
    obtain ⟨gv, egv⟩ : ∃ q, glV t = q := ⟨_, rfl⟩
    rw [egv] at hglaw ⊢
    have HNX := Lib.hid (fun i k (h1 : i < k) (h2 : k < t.n) h3 => pr_next (p := cfAt t L) (n := t.n) (i := i) (k := k) h1 h2 h3)
    have HOT := Lib.hid (fun i k j h1 h2 => pr_other (p := cfAt t L) (n := t.n) (i := i) (k := k) (j := j) h1 h2)
    have HCF := Lib.hid (fun i => prC_first (cfAt t L) t.n i)
    have HCL := Lib.hid (fun i => prC_last (cfAt t L) t.n i)
    have HCY := Lib.hid (fun i k h1 h2 => prC_yes (p := cfAt t L) (n := t.n) (i := i) (k := k) h1 h2)
    have HCN := Lib.hid (fun i k h1 => prC_no (p := cfAt t L) (n := t.n) (i := i) (k := k) h1)
    have HCT0 := Lib.hid (fun i k (h1 : i < t.n) (h2 : k ≤ t.n) => prC_le (cfAt t L) (n := t.n) (i := i) (k := k) h1 h2)
    have HFH := Lib.hid (fun i (hi : i < t.n) => fp_has (cs := ccTo (prTo (cfAt t L) t.n t.n) t.n (prTo (cfAt t L) t.n t.n).length) (n := t.n) (i := i) hi)
    have HXG := Lib.hid (fun j (hj : j < (prTo (cfAt t L) t.n t.n).length) => ct_get t (prTo (cfAt t L) t.n t.n) hj)
    obtain ⟨T, eT⟩ : ∃ T, (fun i => (prTo (cfAt t L) t.n i).length) = T := ⟨_, rfl⟩
    have eTi : ∀ i, (prTo (cfAt t L) t.n i).length = T i := fun i => congrFun eT i
    have eTn := eTi t.n
    have HTI := Lib.hid eTi
    obtain ⟨R, eR⟩ : ∃ R, prTo (cfAt t L) t.n t.n = R := ⟨_, rfl⟩
    rw [eR] at hrp hrf hrc hrx hglaw hml hsum hcin HNX HOT HCT0 HFH HXG eTn
    obtain ⟨M, eM⟩ : ∃ M, R.length = M := ⟨_, rfl⟩
    rw [eM] at hrp hrf hrc hrx hglaw hml hsum hcin HNX HOT HCT0 HFH HXG eTn
    obtain ⟨CS, eCS⟩ : ∃ q, ccTo R t.n M = q := ⟨_, rfl⟩
    rw [eCS] at hrf hrc hsum hcin HFH
    have hsin := fun k => sumTo_in hcin k
    obtain ⟨p, ep⟩ : ∃ p, cfAt t L = p := ⟨_, rfl⟩
    have HSAC := Lib.hid (fun i k => (sa_cf t L i k).trans (congrArg (fun q => !q) (congrFun (congrFun ep i) k)))
    rw [ep] at HNX HOT HCF HCL HCY HCN HCT0 HTI
    have HMV := Lib.hid (fun i (hi : i < t.n) => mvB_of hok hi)
    have HCS := Lib.hid hsum
    obtain ⟨bz, d1, d2⟩ : ∃ b, ((M : Int) == 0) = b ∧ decide (L ≤ gv) = b := by
      by_cases hM : M = 0
      · exact ⟨true, by simp [hM], by simpa using hglaw.1 hM⟩
      · exact ⟨false, by simp; omega, by simp only [decide_eq_false_iff_not]; exact fun h => hM (hglaw.2 h)⟩
    have HPS := Lib.hid (fun (W' : World) (h : Rd W' W'.heap.size 1 vc t.n CS) => pSum_any vc t.n _ CS W' h (Nat.le_refl _) (by omega) (fun k hk => by
      have h1 := hsin k
      have h2 : (k : Int) * (2 * (M : Int)) ≤ 12 * 288 := Int.mul_le_mul (by omega) (by omega) (by omega) (by omega)
      omega))
    rw [hsum] at HPS
    obtain ⟨n, en⟩ : ∃ n, t.n = n := ⟨_, rfl⟩
    obtain ⟨tc, etc⟩ : ∃ q, t.c = q := ⟨_, rfl⟩
    rw [en] at n0 n1 hrf hrc HNX HOT HCF HCL HCY HCN HCT0 HFH HMV HPS HTI
    have e2 := IntWalk.i64_in (2 * (M : Int)) (by omega)
    have nM : ((2 * (M : Int)) != (2 * (M : Int))) = false := by simp
    have nM2 : ((M : Int) != (M : Int)) = false := by simp
    have nb : (bz != bz) = false := by simp
    have HRP := Lib.hid hrp
    have HRC := Lib.hid hrc
    have HRF := Lib.hid hrf
    have HRX := Lib.hid hrx
    have HN := Lib.hid en
    have HETC := Lib.hid etc
    have HETN := Lib.hid eTn
    have HEM := Lib.hid eM
    obtain ⟨Ap, cp', rfl⟩ := hrp.form
    obtain ⟨bc, cc', rfl, -, hbcW⟩ := own_head hrc n0
    obtain ⟨Af, cf', rfl⟩ := (Rd.of_own hrf).form
    obtain ⟨Ax, cx', rfl⟩ := hrx.form
    obtain ⟨q0, q1, q2, q3⟩ := hk.c4
    have BW := Lib.hid (Below.refl W.heap.size W)
    have HK := Lib.hid hk
    clear en etc hob htr hin hok eL eN eCL eCN eFL eFN eXL eXN hrp hrc hrf hrx hgv hglaw hsum hcin hsin egv eT eTi eTn eR eM eCS ep HA hk
    go_wp2_with fail
    refine (P1.out _ BW.out).mono ?_
    rintro e w1 ⟨m1, rfl, o1, hb1⟩
    obtain ⟨A1, c1, rfl⟩ := (Rd.of_own o1).form
    have B1 := Lib.hid (below_on BW.out hb1)
    have O1 := Lib.hid o1
    have K1 := Lib.hid (HK.out.on hb1)
    replace B0 := Lib.hid (below_on B0.out hb1)
    obtain ⟨r0, r1, r2, r3⟩ := K1.out.c4
    clear o1 hb1 q0 q1 q2 q3 BW HK
    go_wp2_with fail
    refine (P2.out _ B1.out).mono ?_
    rintro e w2 ⟨m2, rfl, o2, hb2⟩
    have B2 := Lib.hid (below_on B1.out hb2)
    replace B0 := Lib.hid (below_on B0.out hb2)
    have R1 := Lib.hid (Rd.of_own (own_below O1.out hb2 (Nat.le_refl _)))
    have R2 := Lib.hid (Rd.of_own o2)
    have ho2 := o2
    obtain ⟨bm, cm, rfl, -, hbm⟩ := own_head o2 (by rw [HN.out]; exact n0)
    have HM := Lib.hid (fun (V : World) (hb : Below w2.heap.size w2 V) (j : Nat) (hj : j < n) => (by
      have h := mvTo_get t t.n j (by rw [HN.out]; exact hj)
      have hl := mvTo_length t t.n
      have g := fun i (hi : i < t.n * 5) => (hb.cell (p := ⟨bm, i, none⟩) hbm).trans ((o2.cellAt i hi).trans (ints_get _ i (by rw [hl]; exact hi)))
      have hn := HN.out
      have k0 := g (j * 5) (by omega)
      have k1 := g (j * 5 + 1) (by omega)
      have k2 := g (j * 5 + 2) (by omega)
      have k3 := g (j * 5 + 3) (by omega)
      have k4 := g (j * 5 + 4) (by omega)
      rw [h.1] at k0
      rw [h.2.1] at k1
      rw [h.2.2.1] at k2
      rw [h.2.2.2.1] at k3
      rw [h.2.2.2.2, HETC.out] at k4
      exact ⟨k0, k1, k2, k3, k4⟩ : V.cell? ⟨bm, j * 5, none⟩ = some (.int .i64 (X t.xs j)) ∧ V.cell? ⟨bm, j * 5 + 1, none⟩ = some (.int .i64 (Y t.xs j)) ∧ V.cell? ⟨bm, j * 5 + 2, none⟩ = some (.int .i64 (X t.ys (plc t j))) ∧ V.cell? ⟨bm, j * 5 + 3, none⟩ = some (.int .i64 (Y t.ys (plc t j))) ∧ V.cell? ⟨bm, j * 5 + 4, none⟩ = some (.int .i64 tc)))
    clear o2 ho2 hb2 r0 r1 r2 r3 B1 O1 K1
    rw [HN.out] at R1 R2
    rw [HN.out]
    go_wp2_with fail
    refine (pSameMoves_same _ _ n _ _ _ R1.out R2.out (Nat.le_refl _) (by omega)).mono ?_
    rintro e w3 ⟨rfl, hb3⟩
    have B3 := Lib.hid (below_on B2.out hb3)
    replace B0 := Lib.hid (below_on B0.out hb3)
    have M3 := Lib.hid hb3
    clear hb3 B2 R1 R2
    have RC := Lib.hid (Rd.of_own (own_below HRC.out B3.out (Nat.le_refl _)))
    go_wp2_with fail
    refine (HPS.out _ RC.out).mono ?_
    rintro e w' ⟨rfl, rfl⟩
    go_wp2_with fail
    go_loopw [35, 255] (fun a i wr => ∃ k : Nat, k ≤ n ∧ i = .int .i64 k ∧ a = .int .i64 (T k) ∧ Below w.heap.size w wr ∧ Below W.heap.size W wr ∧ Below w2.heap.size w2 wr) (fun _ i _ => n - (intOf i).toNat)
    case atStart => exact ⟨0, by omega, rfl, by rw [← HTI.out 0]; rfl, B0.out, B3.out, M3.out⟩
    case round =>
      clear B0 B3 M3
      obtain ⟨i, hi, rfl, rfl, hb0, hbw, hbm2⟩ := hrel
      have B0 := Lib.hid hb0
      have BW := Lib.hid hbw
      have BM := Lib.hid hbm2
      clear hb0 hbw hbm2
      obtain ⟨wo, ewo⟩ : ∃ q, wr = q := ⟨_, rfl⟩
      rw [ewo] at B0 BW BM ⊢
      clear ewo
      by_cases hlt : i < n
      · obtain ⟨m0, m1, m2, m3, m4⟩ := HM.out _ BM.out i hlt
        have hlen : CS.length = n := by have := HRC.out.1; rw [ints_length] at this; omega
        have hoc := own_below HRC.out BW.out (Nat.le_refl _)
        have hc0 := (hoc.cellAt i (by omega)).trans (ints_get CS i (by omega))
        have hfh := HFH.out i hlt
        have HPI := Lib.hid (fun (V : World) (hb : Below W.heap.size W V) => pIn_any _ _ V.heap.size (fpTo CS n) (i : Int) V (Rd.of_own (own_below HRF.out hb (Nat.le_refl _))).2 (Nat.le_refl _) (by have := fpTo_len CS n; omega))
        obtain ⟨x, ex⟩ : ∃ x, CS.getD i 0 = x := ⟨_, rfl⟩
        rw [ex] at hc0 hfh
        obtain ⟨bb, ebb⟩ : ∃ b, hasI (fpTo CS n) (fpTo CS n).length (i : Int) = b := ⟨_, rfl⟩
        rw [ebb] at HPI hfh
        have dx : (x == 0) = bb := by rw [hfh]; rfl
        have dbb : (bb != bb) = false := by simp
        have hmv := HMV.out i hlt
        have i0 : (0 : Int) ≤ (i : Int) := by omega
        have i1 : (i : Int) < (n : Int) := by omega
        have i2 := IntWalk.i64_in ((i : Int) + 1) (by omega)
        obtain ⟨x1, e1⟩ : ∃ q, X t.xs i = q := ⟨_, rfl⟩
        obtain ⟨x2, e2'⟩ : ∃ q, Y t.xs i = q := ⟨_, rfl⟩
        obtain ⟨x3, e3⟩ : ∃ q, X t.ys (plc t i) = q := ⟨_, rfl⟩
        obtain ⟨x4, e4⟩ : ∃ q, Y t.ys (plc t i) = q := ⟨_, rfl⟩
        rw [e1] at m0
        rw [e2'] at m1
        rw [e3] at m2
        rw [e4] at m3
        have E1 := Lib.hid e1
        have E2 := Lib.hid e2'
        have E3 := Lib.hid e3
        have E4 := Lib.hid e4
        have KX := Lib.hid (Blk.new wo 47 #[.int .i64 x1, .int .i64 x2, .int .i64 x3, .int .i64 x4, .int .i64 tc])
        have hc1 := cell_new hc0 (.cells #[.int .i64 x1, .int .i64 x2, .int .i64 x3, .int .i64 x4, .int .i64 tc] 47)
        replace B0 := Lib.hid (below_drewN (below_new B0.out (.cells #[.int .i64 x1, .int .i64 x2, .int .i64 x3, .int .i64 x4, .int .i64 tc] 47)) 1)
        replace BW := Lib.hid (below_drewN (below_new BW.out (.cells #[.int .i64 x1, .int .i64 x2, .int .i64 x3, .int .i64 x4, .int .i64 tc] 47)) 1)
        replace BM := Lib.hid (below_drewN (below_new BM.out (.cells #[.int .i64 x1, .int .i64 x2, .int .i64 x3, .int .i64 x4, .int .i64 tc] 47)) 1)
        replace KX := Lib.hid (KX.out.drewN 1)
        clear e1 e2' e3 e4 hfh ex ebb hlen hoc hc0
        go_wp2_with fail
        refine wp_region_held_drew (S := fun W => W.cell? ⟨bc, i, none⟩ = some (.int .i64 x)) (by kernel_rfl) hc1 (fun hHeld => ?_)
        refine take_at (i := 0) (oi := _) 260 (v := .slice Af (fpTo CS n).length cf') rfl rfl (by kernel_rfl) (by kernel_rfl) (by kernel_rfl) (fun _ _ _ h => h) (Or.inl ⟨by rfl, ?_⟩) hHeld ?_
        · (intro w hSw; (try dsimp only at hSw); go_split_ands; go_simp)
        simp only [List.setIfInBounds_toArray, List.set_cons_zero, List.set_cons_succ]
        refine take_at (i := 1) (oi := _) 261 (v := .int .i64 (i : Int)) rfl rfl (by kernel_rfl) (by kernel_rfl) (by kernel_rfl) (fun _ _ _ h => h) (Or.inl ⟨by rfl, ?_⟩) hHeld ?_
        · (intro w hSw; (try dsimp only at hSw); go_split_ands; go_simp)
        simp only [List.setIfInBounds_toArray, List.set_cons_zero, List.set_cons_succ]
        refine take_at (i := 3) (oi := _) 263 (v := .slice (some ⟨bc, 0, none⟩) n cc') rfl rfl (by kernel_rfl) (by kernel_rfl) (by kernel_rfl) (fun _ _ _ h => h) (Or.inl ⟨by rfl, ?_⟩) hHeld ?_
        · (intro w hSw; (try dsimp only at hSw); go_split_ands; go_simp)
        simp only [List.setIfInBounds_toArray, List.set_cons_zero, List.set_cons_succ]
        refine take_at (i := 4) (oi := _) 264 (v := .int .i64 (i : Int)) rfl rfl (by kernel_rfl) (by kernel_rfl) (by kernel_rfl) (fun _ _ _ h => h) (Or.inl ⟨by rfl, ?_⟩) hHeld ?_
        · (intro w hSw; (try dsimp only at hSw); go_split_ands; go_simp)
        simp only [List.setIfInBounds_toArray, List.set_cons_zero, List.set_cons_succ]
        refine take_at (i := 5) (oi := _) 265 (v := .pointer (some ⟨bc, i, none⟩)) rfl rfl (by kernel_rfl) (by kernel_rfl) (by kernel_rfl) (fun _ _ _ h => h) (Or.inl ⟨by rfl, ?_⟩) hHeld ?_
        · (intro w hSw; (try dsimp only at hSw); go_split_ands; go_simp)
        simp only [List.setIfInBounds_toArray, List.set_cons_zero, List.set_cons_succ]
        refine take_at (i := 6) (oi := _) 266 (v := .int .i64 x) rfl rfl (by kernel_rfl) (by kernel_rfl) (by kernel_rfl) (fun _ _ _ h => h) (Or.inl ⟨by rfl, ?_⟩) hHeld ?_
        · (intro w hSw; (try dsimp only at hSw); go_split_ands; go_simp)
        simp only [List.setIfInBounds_toArray, List.set_cons_zero, List.set_cons_succ]
        refine take_at (i := 7) (oi := _) 267 (v := .bool bb) rfl rfl (by kernel_rfl) (by kernel_rfl) (by kernel_rfl) (fun _ _ _ h => h) (Or.inl ⟨by rfl, ?_⟩) hHeld ?_
        · (intro w hSw; (try dsimp only at hSw); go_split_ands; go_simp)
        simp only [List.setIfInBounds_toArray, List.set_cons_zero, List.set_cons_succ]
        refine wpAnyH_ready (rs := [2]) (by kernel_rfl) (by simp) ?_
        refine AllReadyH.cons (o := _) rfl (fun K9 hK => ?_) AllReadyH.nil
        go_simp
        refine (HPI.out _ BW.out).mono ?_
        rintro e w' ⟨rfl, rfl⟩
        refine hK.out _ _ hHeld (fun hHeld => ?_)
        clear hK K9
        try simp only [Act.put, List.setIfInBounds_toArray, List.set_cons_zero, List.set_cons_succ]
        refine take_at (i := 8) (oi := _) 268 (v := .bool false) rfl rfl (by kernel_rfl) (by kernel_rfl) (by kernel_rfl) (fun _ _ _ h => h) (Or.inl ⟨by rfl, ?_⟩) hHeld ?_
        · (intro w hSw; (try dsimp only at hSw); go_split_ands; go_simp)
        simp only [List.setIfInBounds_toArray, List.set_cons_zero, List.set_cons_succ]
        refine wpAnyH_done (by kernel_rfl) ?_ _
        clear hHeld hc1
        go_wp2_with fail
        go_loopw [35, 38] (fun a s wq => ∃ k : Nat, i + 1 ≤ k ∧ k ≤ n ∧ s = .int .i64 k ∧ a = .int .i64 (prC p n i k) ∧ Blk wq wo.heap.size 47 #[.int .i64 x1, .int .i64 x2, .int .i64 x3, .int .i64 x4, .int .i64 tc] ∧ Below w.heap.size w wq ∧ Below W.heap.size W wq ∧ Below w2.heap.size w2 wq) (fun _ s _ => n - (intOf s).toNat)
        case atStart => exact ⟨i + 1, by omega, by omega, by go_num, by rw [HCF.out i, HTI.out i], KX.out, B0.out, BW.out, BM.out⟩
        case round =>
          clear KX B0 BW BM
          obtain ⟨k, hk1, hk2, rfl, rfl, hkx, hb0, hbw, hbm2⟩ := hrel
          have KX := Lib.hid hkx
          have B0 := Lib.hid hb0
          have BW := Lib.hid hbw
          have BM := Lib.hid hbm2
          clear hkx hb0 hbw hbm2
          have hale := HCT0.out i k hlt hk2
          by_cases hlk : k < n
          · obtain ⟨b0, b1, b2, b3, b4⟩ := HM.out _ BM.out k hlk
            have a0 := KX.out.cell 0
            have a1 := KX.out.cell 1
            have a2 := KX.out.cell 2
            have a3 := KX.out.cell 3
            have a4 := KX.out.cell 4
            simp at a0 a1 a2 a3 a4
            have hmy := HMV.out k hlk
            have hsa := HSAC.out i k
            have hat : apS t i k = tmT (X t.xs i - X t.xs k) (Y t.xs i - Y t.xs k) (X t.ys (plc t i) - X t.ys (plc t k)) (Y t.ys (plc t i) - Y t.ys (plc t k)) t.c := rfl
            have hau : apU t i k = tmU (X t.xs i - X t.xs k) (Y t.xs i - Y t.xs k) (X t.ys (plc t i) - X t.ys (plc t k)) (Y t.ys (plc t i) - Y t.ys (plc t k)) t.c := rfl
            obtain ⟨y1, f1⟩ : ∃ q, X t.xs k = q := ⟨_, rfl⟩
            obtain ⟨y2, f2⟩ : ∃ q, Y t.xs k = q := ⟨_, rfl⟩
            obtain ⟨y3, f3⟩ : ∃ q, X t.ys (plc t k) = q := ⟨_, rfl⟩
            obtain ⟨y4, f4⟩ : ∃ q, Y t.ys (plc t k) = q := ⟨_, rfl⟩
            rw [f1] at b0
            rw [f2] at b1
            rw [f3] at b2
            rw [f4] at b3
            rw [f1, f2, f3, f4, HETC.out] at hmy
            rw [f1, f2, f3, f4, E1.out, E2.out, E3.out, E4.out] at hsa
            rw [f1, f2, f3, f4, E1.out, E2.out, E3.out, E4.out, HETC.out] at hat hau
            have hmx := hmv
            rw [E1.out, E2.out, E3.out, E4.out, HETC.out] at hmx
            have HSA := Lib.hid (fun W' => StayApart_any x1 x2 x3 x4 y1 y2 y3 y4 tc L W' hmx hmy l0 l1)
            have HCT := Lib.hid (fun W' => ClosestTime_any x1 x2 x3 x4 y1 y2 y3 y4 tc W' hmx hmy)
            have hnx := HNX.out i k (by omega) hlk
            have hot := fun j => HOT.out i k j
            have hcy := HCY.out i k (by omega)
            have hcn := HCN.out i k
            rw [← hat, ← hau] at HCT
            obtain ⟨S, eS⟩ : ∃ q, apS t i k = q := ⟨_, rfl⟩
            obtain ⟨U, eU⟩ : ∃ q, apU t i k = q := ⟨_, rfl⟩
            obtain ⟨z, ez⟩ : ∃ q, prC p n i k = q := ⟨_, rfl⟩
            rw [ez] at hnx hcy hcn hale ⊢
            rw [eS, eU] at HCT
            rw [hsa] at HSA
            have k0 : (0 : Int) ≤ (k : Int) := by omega
            have k1 : (k : Int) < (n : Int) := by omega
            have z0 : (0 : Int) ≤ (z : Int) := by omega
            have ES := Lib.hid eS
            have EU := Lib.hid eU
            have HNX1 := Lib.hid hnx
            have HOT1 := Lib.hid hot
            have HCY1 := Lib.hid hcy
            have HCN1 := Lib.hid hcn
            cases hp : p i k with
            | false =>
              rw [hp] at HSA
              have hzn := hcn hp
              have HZN := Lib.hid hzn
              have HP := Lib.hid hp
              clear f1 f2 f3 f4 hmy hsa hat hau hmx hnx hot hcy hcn eS eU ez hzn hp HCT
              go_wp2_with fail
              refine wp_region_held_drew (S := fun W => W.cell? ⟨wo.heap.size, 0, none⟩ = some (.int .i64 x1) ∧ W.cell? ⟨wo.heap.size, 1, none⟩ = some (.int .i64 x2) ∧ W.cell? ⟨wo.heap.size, 2, none⟩ = some (.int .i64 x3) ∧ W.cell? ⟨wo.heap.size, 3, none⟩ = some (.int .i64 x4) ∧ W.cell? ⟨wo.heap.size, 4, none⟩ = some (.int .i64 tc) ∧ W.cell? ⟨bm, k * 5, none⟩ = some (.int .i64 y1) ∧ W.cell? ⟨bm, k * 5 + 1, none⟩ = some (.int .i64 y2) ∧ W.cell? ⟨bm, k * 5 + 2, none⟩ = some (.int .i64 y3) ∧ W.cell? ⟨bm, k * 5 + 3, none⟩ = some (.int .i64 y4) ∧ W.cell? ⟨bm, k * 5 + 4, none⟩ = some (.int .i64 tc)) (by kernel_rfl) ⟨a0, a1, a2, a3, a4, b0, b1, b2, b3, b4⟩ (fun hHeld => ?_)
              refine take_at (i := 0) (oi := _) 278 (v := (Value.agg #[Value.int .i64 x1, Value.int .i64 x2, Value.int .i64 x3, Value.int .i64 x4, Value.int .i64 tc])) rfl rfl (by kernel_rfl) (by kernel_rfl) (by kernel_rfl) (fun _ _ _ h => h) (Or.inl ⟨by rfl, ?_⟩) hHeld ?_
              · (intro w hSw; (try dsimp only at hSw); go_split_ands; go_simp)
              simp only [List.setIfInBounds_toArray, List.set_cons_zero, List.set_cons_succ]
              refine take_at (i := 1) (oi := _) 279 (v := .slice (some ⟨bm, 0, none⟩) n cm) rfl rfl (by kernel_rfl) (by kernel_rfl) (by kernel_rfl) (fun _ _ _ h => h) (Or.inl ⟨by rfl, ?_⟩) hHeld ?_
              · (intro w hSw; (try dsimp only at hSw); go_split_ands; go_simp)
              simp only [List.setIfInBounds_toArray, List.set_cons_zero, List.set_cons_succ]
              refine take_at (i := 2) (oi := _) 280 (v := .int .i64 (k : Int)) rfl rfl (by kernel_rfl) (by kernel_rfl) (by kernel_rfl) (fun _ _ _ h => h) (Or.inl ⟨by rfl, ?_⟩) hHeld ?_
              · (intro w hSw; (try dsimp only at hSw); go_split_ands; go_simp)
              simp only [List.setIfInBounds_toArray, List.set_cons_zero, List.set_cons_succ]
              refine take_at (i := 3) (oi := _) 281 (v := .pointer (some ⟨bm, k * 5, none⟩)) rfl rfl (by kernel_rfl) (by kernel_rfl) (by kernel_rfl) (fun _ _ _ h => h) (Or.inl ⟨by rfl, ?_⟩) hHeld ?_
              · (intro w hSw; (try dsimp only at hSw); go_split_ands; go_simp)
              simp only [List.setIfInBounds_toArray, List.set_cons_zero, List.set_cons_succ]
              refine take_at (i := 4) (oi := _) 282 (v := (Value.agg #[Value.int .i64 y1, Value.int .i64 y2, Value.int .i64 y3, Value.int .i64 y4, Value.int .i64 tc])) rfl rfl (by kernel_rfl) (by kernel_rfl) (by kernel_rfl) (fun _ _ _ h => h) (Or.inl ⟨by rfl, ?_⟩) hHeld ?_
              · (intro w hSw; (try dsimp only at hSw); go_split_ands; go_simp)
              simp only [List.setIfInBounds_toArray, List.set_cons_zero, List.set_cons_succ]
              refine take_at (i := 5) (oi := _) 283 (v := .int .i64 L) rfl rfl (by kernel_rfl) (by kernel_rfl) (by kernel_rfl) (fun _ _ _ h => h) (Or.inl ⟨by rfl, ?_⟩) hHeld ?_
              · (intro w hSw; (try dsimp only at hSw); go_split_ands; go_simp)
              simp only [List.setIfInBounds_toArray, List.set_cons_zero, List.set_cons_succ]
              refine wpAnyH_ready (rs := [6]) (by kernel_rfl) (by simp) ?_
              refine AllReadyH.cons (o := _) rfl (fun K9 hK => ?_) AllReadyH.nil
              go_simp
              refine (HSA.out _).mono ?_
              rintro e w9 ⟨rfl, hb9⟩
              obtain ⟨h0, h1, h2, h3, h4, h5, h6, h7, h8, h9⟩ := hHeld
              refine hK.out _ _ ⟨cell_on hb9 h0, cell_on hb9 h1, cell_on hb9 h2, cell_on hb9 h3, cell_on hb9 h4, cell_on hb9 h5, cell_on hb9 h6, cell_on hb9 h7, cell_on hb9 h8, cell_on hb9 h9⟩ (fun hHeld => ?_)
              replace KX := Lib.hid ((KX.out.drewN 1).on hb9)
              replace B0 := Lib.hid (below_on (below_drewN B0.out 1) hb9)
              replace BW := Lib.hid (below_on (below_drewN BW.out 1) hb9)
              replace BM := Lib.hid (below_on (below_drewN BM.out 1) hb9)
              clear hb9 hK K9 h0 h1 h2 h3 h4 h5 h6 h7 h8 h9
              try simp only [Act.put, List.setIfInBounds_toArray, List.set_cons_zero, List.set_cons_succ]
              refine take_at (i := 7) (oi := _) 277 (v := .tuple #[.bool true, .bool true]) rfl rfl (by kernel_rfl) (by kernel_rfl) (by kernel_rfl) (fun _ _ _ h => h) (Or.inl ⟨by rfl, ?_⟩) hHeld ?_
              · (intro w hSw; (try dsimp only at hSw); go_split_ands; go_simp)
              simp only [List.setIfInBounds_toArray, List.set_cons_zero, List.set_cons_succ]
              refine take_at (i := 8) (oi := _) 285 (v := .bool true) rfl rfl (by kernel_rfl) (by kernel_rfl) (by kernel_rfl) (fun _ _ _ h => h) (Or.inl ⟨by rfl, ?_⟩) hHeld ?_
              · (intro w hSw; (try dsimp only at hSw); go_split_ands; go_simp)
              simp only [List.setIfInBounds_toArray, List.set_cons_zero, List.set_cons_succ]
              refine take_at (i := 9) (oi := _) 286 (v := .bool true) rfl rfl (by kernel_rfl) (by kernel_rfl) (by kernel_rfl) (fun _ _ _ h => h) (Or.inl ⟨by rfl, ?_⟩) hHeld ?_
              · (intro w hSw; (try dsimp only at hSw); go_split_ands; go_simp)
              simp only [List.setIfInBounds_toArray, List.set_cons_zero, List.set_cons_succ]
              refine wpAnyH_ready (rs := [10]) (by kernel_rfl) (by simp) ?_
              refine AllReadyH.cons (o := _) rfl (fun K9 hK => ?_) AllReadyH.nil
              go_simp
              refine hK.out _ _ hHeld (fun hHeld => ?_)
              clear hK K9
              try simp only [Act.put, List.setIfInBounds_toArray, List.set_cons_zero, List.set_cons_succ]
              refine wpAnyH_ready (rs := [11]) (by kernel_rfl) (by simp) ?_
              refine AllReadyH.cons (o := _) rfl (fun K9 hK => ?_) AllReadyH.nil
              go_simp
              refine hK.out _ _ hHeld (fun hHeld => ?_)
              clear hK K9
              try simp only [Act.put, List.setIfInBounds_toArray, List.set_cons_zero, List.set_cons_succ]
              refine wpAnyH_done (by kernel_rfl) ?_ _
              clear hHeld
              by_cases hzM : z < M
              · obtain ⟨aa, cc9, hrw, hne, -, -⟩ := HOT1.out z HP.out hzM
                have z1 : (z : Int) < (M : Int) := by omega
                obtain ⟨bp, cq, gg, rr, ev, pk0, -, -, hrd, hkb, -⟩ := (HRP.out.below BW.out (Nat.le_refl _)).at hzM
                simp only [Value.slice.injEq, true_and] at ev
                obtain ⟨rfl, rfl⟩ := ev
                rw [hrw] at hrd
                subst hrd
                have pk1 := hkb.cell 0
                have pk2 := hkb.cell 1
                unfold rowV at pk0
                simp [ints] at pk1 pk2
                simp only [List.length_cons, List.length_nil, Nat.zero_add, Nat.reduceAdd] at pk0
                clear hkb hrw
                by_cases hai : aa = i
                · subst hai
                  have hck : ¬ cc9 = k := hne rfl
                  have d5 : ((cc9 : Int) == (k : Int)) = false := by simp; omega
                  go_wp2_with fail
                  go_roundw
                  case rel => exact ⟨k + 1, by omega, by omega, by go_num, by rw [HZN.out], KX.out, B0.out, BW.out, BM.out⟩
                  case measure => simp [intOf]; omega
                · have d5 : ((aa : Int) == (i : Int)) = false := by simp; omega
                  go_wp2_with fail
                  go_roundw
                  case rel => exact ⟨k + 1, by omega, by omega, by go_num, by rw [HZN.out], KX.out, B0.out, BW.out, BM.out⟩
                  case measure => simp [intOf]; omega
              · have z1 : decide ((z : Int) < (M : Int)) = false := by simp; omega
                go_wp2_with fail
                go_roundw
                case rel => exact ⟨k + 1, by omega, by omega, by go_num, by rw [HZN.out], KX.out, B0.out, BW.out, BM.out⟩
                case measure => simp [intOf]; omega
            | true =>
              rw [hp] at HSA
              obtain ⟨hzM, hrw⟩ := hnx hp
              have hzn := hcy hp
              have HZN := Lib.hid hzn
              have z1 : (z : Int) < (M : Int) := by omega
              have z2 := IntWalk.i64_in ((z : Int) + 1) (by omega)
              have d6 : (S != S) = false := by simp
              have d7 : (U != U) = false := by simp
              have hxg := HXG.out z hzM
              rw [hrw] at hxg
              have hxg2 : (ctTo t R M).getD z [] = [(i : Int), (k : Int), S, U] := by rw [hxg, ← ES.out, ← EU.out]; rfl
              obtain ⟨bp, cq, gg, rr, ev, pk0, -, -, hrd, hkb, -⟩ := (HRP.out.below BW.out (Nat.le_refl _)).at hzM
              simp only [Value.slice.injEq, true_and] at ev
              obtain ⟨rfl, rfl⟩ := ev
              rw [hrw] at hrd
              subst hrd
              have pk1 := hkb.cell 0
              have pk2 := hkb.cell 1
              unfold rowV at pk0
              simp [ints] at pk1 pk2
              simp only [List.length_cons, List.length_nil, Nat.zero_add, Nat.reduceAdd] at pk0
              clear hkb hrw
              obtain ⟨bx, cx9, gx, rx, ev, qk0, -, -, hrd, hkb, -⟩ := (HRX.out.below BW.out (Nat.le_refl _)).at hzM
              simp only [Value.slice.injEq, true_and] at ev
              obtain ⟨rfl, rfl⟩ := ev
              rw [hxg2] at hrd
              subst hrd
              have qk2 := hkb.cell 2
              have qk3 := hkb.cell 3
              unfold rowV at qk0
              simp [ints] at qk2 qk3
              simp only [List.length_cons, List.length_nil, Nat.zero_add, Nat.reduceAdd] at qk0
              clear hkb
              clear f1 f2 f3 f4 hmy hsa hat hau hmx hnx hot hcy hcn eS eU ez hzn hp hxg hxg2
              go_wp2_with fail
              refine wp_region_held_drew (S := fun W => W.cell? ⟨wo.heap.size, 0, none⟩ = some (.int .i64 x1) ∧ W.cell? ⟨wo.heap.size, 1, none⟩ = some (.int .i64 x2) ∧ W.cell? ⟨wo.heap.size, 2, none⟩ = some (.int .i64 x3) ∧ W.cell? ⟨wo.heap.size, 3, none⟩ = some (.int .i64 x4) ∧ W.cell? ⟨wo.heap.size, 4, none⟩ = some (.int .i64 tc) ∧ W.cell? ⟨bm, k * 5, none⟩ = some (.int .i64 y1) ∧ W.cell? ⟨bm, k * 5 + 1, none⟩ = some (.int .i64 y2) ∧ W.cell? ⟨bm, k * 5 + 2, none⟩ = some (.int .i64 y3) ∧ W.cell? ⟨bm, k * 5 + 3, none⟩ = some (.int .i64 y4) ∧ W.cell? ⟨bm, k * 5 + 4, none⟩ = some (.int .i64 tc)) (by kernel_rfl) ⟨a0, a1, a2, a3, a4, b0, b1, b2, b3, b4⟩ (fun hHeld => ?_)
              refine take_at (i := 0) (oi := _) 278 (v := (Value.agg #[Value.int .i64 x1, Value.int .i64 x2, Value.int .i64 x3, Value.int .i64 x4, Value.int .i64 tc])) rfl rfl (by kernel_rfl) (by kernel_rfl) (by kernel_rfl) (fun _ _ _ h => h) (Or.inl ⟨by rfl, ?_⟩) hHeld ?_
              · (intro w hSw; (try dsimp only at hSw); go_split_ands; go_simp)
              simp only [List.setIfInBounds_toArray, List.set_cons_zero, List.set_cons_succ]
              refine take_at (i := 1) (oi := _) 279 (v := .slice (some ⟨bm, 0, none⟩) n cm) rfl rfl (by kernel_rfl) (by kernel_rfl) (by kernel_rfl) (fun _ _ _ h => h) (Or.inl ⟨by rfl, ?_⟩) hHeld ?_
              · (intro w hSw; (try dsimp only at hSw); go_split_ands; go_simp)
              simp only [List.setIfInBounds_toArray, List.set_cons_zero, List.set_cons_succ]
              refine take_at (i := 2) (oi := _) 280 (v := .int .i64 (k : Int)) rfl rfl (by kernel_rfl) (by kernel_rfl) (by kernel_rfl) (fun _ _ _ h => h) (Or.inl ⟨by rfl, ?_⟩) hHeld ?_
              · (intro w hSw; (try dsimp only at hSw); go_split_ands; go_simp)
              simp only [List.setIfInBounds_toArray, List.set_cons_zero, List.set_cons_succ]
              refine take_at (i := 3) (oi := _) 281 (v := .pointer (some ⟨bm, k * 5, none⟩)) rfl rfl (by kernel_rfl) (by kernel_rfl) (by kernel_rfl) (fun _ _ _ h => h) (Or.inl ⟨by rfl, ?_⟩) hHeld ?_
              · (intro w hSw; (try dsimp only at hSw); go_split_ands; go_simp)
              simp only [List.setIfInBounds_toArray, List.set_cons_zero, List.set_cons_succ]
              refine take_at (i := 4) (oi := _) 282 (v := (Value.agg #[Value.int .i64 y1, Value.int .i64 y2, Value.int .i64 y3, Value.int .i64 y4, Value.int .i64 tc])) rfl rfl (by kernel_rfl) (by kernel_rfl) (by kernel_rfl) (fun _ _ _ h => h) (Or.inl ⟨by rfl, ?_⟩) hHeld ?_
              · (intro w hSw; (try dsimp only at hSw); go_split_ands; go_simp)
              simp only [List.setIfInBounds_toArray, List.set_cons_zero, List.set_cons_succ]
              refine take_at (i := 5) (oi := _) 283 (v := .int .i64 L) rfl rfl (by kernel_rfl) (by kernel_rfl) (by kernel_rfl) (fun _ _ _ h => h) (Or.inl ⟨by rfl, ?_⟩) hHeld ?_
              · (intro w hSw; (try dsimp only at hSw); go_split_ands; go_simp)
              simp only [List.setIfInBounds_toArray, List.set_cons_zero, List.set_cons_succ]
              refine wpAnyH_ready (rs := [6]) (by kernel_rfl) (by simp) ?_
              refine AllReadyH.cons (o := _) rfl (fun K9 hK => ?_) AllReadyH.nil
              go_simp
              refine (HSA.out _).mono ?_
              rintro e w9 ⟨rfl, hb9⟩
              obtain ⟨h0, h1, h2, h3, h4, h5, h6, h7, h8, h9⟩ := hHeld
              refine hK.out _ _ ⟨cell_on hb9 h0, cell_on hb9 h1, cell_on hb9 h2, cell_on hb9 h3, cell_on hb9 h4, cell_on hb9 h5, cell_on hb9 h6, cell_on hb9 h7, cell_on hb9 h8, cell_on hb9 h9⟩ (fun hHeld => ?_)
              replace KX := Lib.hid ((KX.out.drewN 1).on hb9)
              replace B0 := Lib.hid (below_on (below_drewN B0.out 1) hb9)
              replace BW := Lib.hid (below_on (below_drewN BW.out 1) hb9)
              replace BM := Lib.hid (below_on (below_drewN BM.out 1) hb9)
              replace pk0 := cell_on hb9 pk0
              replace pk1 := cell_on hb9 pk1
              replace pk2 := cell_on hb9 pk2
              replace qk0 := cell_on hb9 qk0
              replace qk2 := cell_on hb9 qk2
              replace qk3 := cell_on hb9 qk3
              replace a0 := cell_on hb9 a0
              replace a1 := cell_on hb9 a1
              replace a2 := cell_on hb9 a2
              replace a3 := cell_on hb9 a3
              replace a4 := cell_on hb9 a4
              replace b0 := cell_on hb9 b0
              replace b1 := cell_on hb9 b1
              replace b2 := cell_on hb9 b2
              replace b3 := cell_on hb9 b3
              replace b4 := cell_on hb9 b4
              clear hb9 hK K9 h0 h1 h2 h3 h4 h5 h6 h7 h8 h9
              try simp only [Act.put, List.setIfInBounds_toArray, List.set_cons_zero, List.set_cons_succ]
              refine take_at (i := 7) (oi := _) 277 (v := .tuple #[.bool false, .bool true]) rfl rfl (by kernel_rfl) (by kernel_rfl) (by kernel_rfl) (fun _ _ _ h => h) (Or.inl ⟨by rfl, ?_⟩) hHeld ?_
              · (intro w hSw; (try dsimp only at hSw); go_split_ands; go_simp)
              simp only [List.setIfInBounds_toArray, List.set_cons_zero, List.set_cons_succ]
              refine take_at (i := 8) (oi := _) 285 (v := .bool false) rfl rfl (by kernel_rfl) (by kernel_rfl) (by kernel_rfl) (fun _ _ _ h => h) (Or.inl ⟨by rfl, ?_⟩) hHeld ?_
              · (intro w hSw; (try dsimp only at hSw); go_split_ands; go_simp)
              simp only [List.setIfInBounds_toArray, List.set_cons_zero, List.set_cons_succ]
              refine take_at (i := 9) (oi := _) 286 (v := .bool true) rfl rfl (by kernel_rfl) (by kernel_rfl) (by kernel_rfl) (fun _ _ _ h => h) (Or.inl ⟨by rfl, ?_⟩) hHeld ?_
              · (intro w hSw; (try dsimp only at hSw); go_split_ands; go_simp)
              simp only [List.setIfInBounds_toArray, List.set_cons_zero, List.set_cons_succ]
              refine wpAnyH_ready (rs := [10]) (by kernel_rfl) (by simp) ?_
              refine AllReadyH.cons (o := _) rfl (fun K9 hK => ?_) AllReadyH.nil
              go_simp
              refine hK.out _ _ hHeld (fun hHeld => ?_)
              clear hK K9
              try simp only [Act.put, List.setIfInBounds_toArray, List.set_cons_zero, List.set_cons_succ]
              refine wpAnyH_ready (rs := [11]) (by kernel_rfl) (by simp) ?_
              refine AllReadyH.cons (o := _) rfl (fun K9 hK => ?_) AllReadyH.nil
              go_simp
              refine hK.out _ _ hHeld (fun hHeld => ?_)
              clear hK K9
              try simp only [Act.put, List.setIfInBounds_toArray, List.set_cons_zero, List.set_cons_succ]
              refine wpAnyH_done (by kernel_rfl) ?_ _
              clear hHeld
              go_wp2_with fail
              refine wp_region_held_drew (S := fun W => W.cell? ⟨wo.heap.size, 0, none⟩ = some (.int .i64 x1) ∧ W.cell? ⟨wo.heap.size, 1, none⟩ = some (.int .i64 x2) ∧ W.cell? ⟨wo.heap.size, 2, none⟩ = some (.int .i64 x3) ∧ W.cell? ⟨wo.heap.size, 3, none⟩ = some (.int .i64 x4) ∧ W.cell? ⟨wo.heap.size, 4, none⟩ = some (.int .i64 tc) ∧ W.cell? ⟨bm, k * 5, none⟩ = some (.int .i64 y1) ∧ W.cell? ⟨bm, k * 5 + 1, none⟩ = some (.int .i64 y2) ∧ W.cell? ⟨bm, k * 5 + 2, none⟩ = some (.int .i64 y3) ∧ W.cell? ⟨bm, k * 5 + 3, none⟩ = some (.int .i64 y4) ∧ W.cell? ⟨bm, k * 5 + 4, none⟩ = some (.int .i64 tc)) (by kernel_rfl) ⟨a0, a1, a2, a3, a4, b0, b1, b2, b3, b4⟩ (fun hHeld => ?_)
              refine take_at (i := 0) (oi := _) 320 (v := (Value.agg #[Value.int .i64 x1, Value.int .i64 x2, Value.int .i64 x3, Value.int .i64 x4, Value.int .i64 tc])) rfl rfl (by kernel_rfl) (by kernel_rfl) (by kernel_rfl) (fun _ _ _ h => h) (Or.inl ⟨by rfl, ?_⟩) hHeld ?_
              · (intro w hSw; (try dsimp only at hSw); go_split_ands; go_simp)
              simp only [List.setIfInBounds_toArray, List.set_cons_zero, List.set_cons_succ]
              refine take_at (i := 1) (oi := _) 321 (v := .slice (some ⟨bm, 0, none⟩) n cm) rfl rfl (by kernel_rfl) (by kernel_rfl) (by kernel_rfl) (fun _ _ _ h => h) (Or.inl ⟨by rfl, ?_⟩) hHeld ?_
              · (intro w hSw; (try dsimp only at hSw); go_split_ands; go_simp)
              simp only [List.setIfInBounds_toArray, List.set_cons_zero, List.set_cons_succ]
              refine take_at (i := 2) (oi := _) 322 (v := .int .i64 (k : Int)) rfl rfl (by kernel_rfl) (by kernel_rfl) (by kernel_rfl) (fun _ _ _ h => h) (Or.inl ⟨by rfl, ?_⟩) hHeld ?_
              · (intro w hSw; (try dsimp only at hSw); go_split_ands; go_simp)
              simp only [List.setIfInBounds_toArray, List.set_cons_zero, List.set_cons_succ]
              refine take_at (i := 3) (oi := _) 323 (v := .pointer (some ⟨bm, k * 5, none⟩)) rfl rfl (by kernel_rfl) (by kernel_rfl) (by kernel_rfl) (fun _ _ _ h => h) (Or.inl ⟨by rfl, ?_⟩) hHeld ?_
              · (intro w hSw; (try dsimp only at hSw); go_split_ands; go_simp)
              simp only [List.setIfInBounds_toArray, List.set_cons_zero, List.set_cons_succ]
              refine take_at (i := 4) (oi := _) 324 (v := (Value.agg #[Value.int .i64 y1, Value.int .i64 y2, Value.int .i64 y3, Value.int .i64 y4, Value.int .i64 tc])) rfl rfl (by kernel_rfl) (by kernel_rfl) (by kernel_rfl) (fun _ _ _ h => h) (Or.inl ⟨by rfl, ?_⟩) hHeld ?_
              · (intro w hSw; (try dsimp only at hSw); go_split_ands; go_simp)
              simp only [List.setIfInBounds_toArray, List.set_cons_zero, List.set_cons_succ]
              refine wpAnyH_ready (rs := [5]) (by kernel_rfl) (by simp) ?_
              refine AllReadyH.cons (o := _) rfl (fun K9 hK => ?_) AllReadyH.nil
              go_simp
              refine (HCT.out _).mono ?_
              rintro e w9 ⟨rfl, hb9⟩
              obtain ⟨h0, h1, h2, h3, h4, h5, h6, h7, h8, h9⟩ := hHeld
              refine hK.out _ _ ⟨cell_on hb9 h0, cell_on hb9 h1, cell_on hb9 h2, cell_on hb9 h3, cell_on hb9 h4, cell_on hb9 h5, cell_on hb9 h6, cell_on hb9 h7, cell_on hb9 h8, cell_on hb9 h9⟩ (fun hHeld => ?_)
              replace KX := Lib.hid ((KX.out.drewN 1).on hb9)
              replace B0 := Lib.hid (below_on (below_drewN B0.out 1) hb9)
              replace BW := Lib.hid (below_on (below_drewN BW.out 1) hb9)
              replace BM := Lib.hid (below_on (below_drewN BM.out 1) hb9)
              replace qk0 := cell_on hb9 qk0
              replace qk2 := cell_on hb9 qk2
              replace qk3 := cell_on hb9 qk3
              clear hb9 hK K9 h0 h1 h2 h3 h4 h5 h6 h7 h8 h9
              try simp only [Act.put, List.setIfInBounds_toArray, List.set_cons_zero, List.set_cons_succ]
              refine take_at (i := 6) (oi := _) 319 (v := .tuple #[.int .i64 S, .int .i64 U, .bool true]) rfl rfl (by kernel_rfl) (by kernel_rfl) (by kernel_rfl) (fun _ _ _ h => h) (Or.inl ⟨by rfl, ?_⟩) hHeld ?_
              · (intro w hSw; (try dsimp only at hSw); go_split_ands; go_simp)
              simp only [List.setIfInBounds_toArray, List.set_cons_zero, List.set_cons_succ]
              refine take_at (i := 7) (oi := _) 326 (v := .int .i64 S) rfl rfl (by kernel_rfl) (by kernel_rfl) (by kernel_rfl) (fun _ _ _ h => h) (Or.inl ⟨by rfl, ?_⟩) hHeld ?_
              · (intro w hSw; (try dsimp only at hSw); go_split_ands; go_simp)
              simp only [List.setIfInBounds_toArray, List.set_cons_zero, List.set_cons_succ]
              refine take_at (i := 8) (oi := _) 327 (v := .int .i64 U) rfl rfl (by kernel_rfl) (by kernel_rfl) (by kernel_rfl) (fun _ _ _ h => h) (Or.inl ⟨by rfl, ?_⟩) hHeld ?_
              · (intro w hSw; (try dsimp only at hSw); go_split_ands; go_simp)
              simp only [List.setIfInBounds_toArray, List.set_cons_zero, List.set_cons_succ]
              refine take_at (i := 9) (oi := _) 328 (v := .bool true) rfl rfl (by kernel_rfl) (by kernel_rfl) (by kernel_rfl) (fun _ _ _ h => h) (Or.inl ⟨by rfl, ?_⟩) hHeld ?_
              · (intro w hSw; (try dsimp only at hSw); go_split_ands; go_simp)
              simp only [List.setIfInBounds_toArray, List.set_cons_zero, List.set_cons_succ]
              refine wpAnyH_ready (rs := [10]) (by kernel_rfl) (by simp) ?_
              refine AllReadyH.cons (o := _) rfl (fun K9 hK => ?_) AllReadyH.nil
              go_simp
              refine hK.out _ _ hHeld (fun hHeld => ?_)
              clear hK K9
              try simp only [Act.put, List.setIfInBounds_toArray, List.set_cons_zero, List.set_cons_succ]
              refine wpAnyH_ready (rs := [11]) (by kernel_rfl) (by simp) ?_
              refine AllReadyH.cons (o := _) rfl (fun K9 hK => ?_) AllReadyH.nil
              go_simp
              refine hK.out _ _ hHeld (fun hHeld => ?_)
              clear hK K9
              try simp only [Act.put, List.setIfInBounds_toArray, List.set_cons_zero, List.set_cons_succ]
              refine wpAnyH_ready (rs := [12]) (by kernel_rfl) (by simp) ?_
              refine AllReadyH.cons (o := _) rfl (fun K9 hK => ?_) AllReadyH.nil
              go_simp
              refine hK.out _ _ hHeld (fun hHeld => ?_)
              clear hK K9
              try simp only [Act.put, List.setIfInBounds_toArray, List.set_cons_zero, List.set_cons_succ]
              refine wpAnyH_done (by kernel_rfl) ?_ _
              clear hHeld
              go_wp2_with fail
              go_roundw
              case rel => exact ⟨k + 1, by omega, by omega, by go_num, by rw [HZN.out]; go_num, KX.out, B0.out, BW.out, BM.out⟩
              case measure => simp [intOf]; omega
          · obtain rfl : k = n := by omega
            have hl := HCL.out i
            have HL := Lib.hid (hl.trans (HTI.out (i + 1)))
            clear hl hale
            go_wp2_with fail
            go_roundw
            case rel => exact ⟨i + 1, by omega, by go_num, by rw [HL.out], B0.out, BW.out, BM.out⟩
            case measure => simp [intOf]; omega
      · obtain rfl : i = n := by omega
        have hT : T i = M := (congrArg T HN.out).symm.trans HETN.out.symm
        rw [hT]
        have BZ := Lib.hid B0.out
        go_wp2_with fail
        go_ret
        exact ⟨rfl, BZ.out⟩
end Go.Proofs.Ytjcepipgjpaclaa
