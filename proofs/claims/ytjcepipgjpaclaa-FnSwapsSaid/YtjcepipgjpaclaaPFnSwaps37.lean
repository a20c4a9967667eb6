/- The law on swaps from the look at the best swap on. Condition: what both sides have found. -/
import Derived.Test.YtjcepipgjpaclaaPFnSwaps36
namespace Go.Proofs.Ytjcepipgjpaclaa
open Go.RowKit

set_option maxRecDepth 100000 in
set_option maxHeartbeats 4000000 in
theorem sw_d (w W : World) (hB : Below w.heap.size w W) (gt lo : Nat) (A C D : Option Addr) (ca cb cc : Nat) (t : TrN) (tb : Bool) (lm : Nat) (vm : Value) (A1 : Option Addr) (n1 c1 : Nat) (h1 : RdB W W.heap.size A1 n1) (hm1 : n1 ≤ 9223372036854775807) (hR : SwR W gt lo A C D ca cb cc t) (hM : tb = true → W.ownsRow lm 47 5 vm t.n (ints (mvTo t t.n))) (htb : trB t = tb) (ob : Bool) (hob : bsB t = ob) (f : Nat → Value) :
    Code.wp Try.prog (tailOf 12 swBody) (bodyPost Try.prog Try.f6 (fun e w' => e = .returned (.bool true) ∧ Below w.heap.size w w')) ⟨#[f 0, .slice A1 n1 c1, f 2, f 3, f 4, .pointer (some ⟨gt, 0, none⟩), f 6, f 7, f 8, .bool ob, .int .i64 ((bsV t).1 : Int), .int .i64 ((bsV t).2.1 : Int), .int .i64 (bsV t).2.2, f 13, f 14, .bool tb, vm, f 17, f 18, f 19, .int .i64 (faV t), f 21, f 22, f 23, .int .i64 (suV t), f 25, f 26, f 27, f 28, f 29, f 30, f 31, f 32, f 33, f 34, f 35, f 36, f 37, f 38, f 39, f 40, f 41, f 42, f 43, f 44, f 45, f 46, f 47, f 48, f 49, f 50, f 51, f 52, f 53, f 54, f 55, f 56, f 57, f 58, f 59, f 60, f 61, f 62, f 63, f 64, f 65, f 66, f 67, f 68, f 69, f 70, f 71, f 72, f 73, f 74, f 75, f 76, f 77, f 78, f 79, f 80, f 81, f 82, f 83, f 84, f 85, f 86, f 87, f 88, f 89, f 90, f 91, f 92, f 93, f 94, f 95, f 96, f 97, f 98, f 99, f 100, f 101, f 102, f 103, f 104, f 105, f 106, f 107, f 108, f 109, f 110, f 111, f 112, f 113, f 114, f 115, f 116, f 117, f 118, f 119, f 120, f 121, f 122, f 123, f 124, f 125, f 126, f 127, f 128, f 129, f 130, f 131, f 132, f 133, f 134, f 135, f 136, f 137, f 138, f 139, f 140, f 141, f 142, f 143, f 144, f 145, f 146, f 147, f 148, f 149, f 150, f 151, f 152, f 153, f 154, f 155, f 156, f 157, f 158, f 159, f 160, f 161, f 162, f 163, f 164, f 165, f 166, f 167, f 168, f 169, f 170, f 171, f 172, f 173, f 174, f 175, f 176, f 177, f 178, f 179, f 180, f 181, f 182, f 183, f 184, f 185, f 186, f 187, f 188, f 189, f 190, f 191, f 192, f 193, f 194, f 195, f 196, f 197, f 198, f 199, f 200, f 201, f 202, f 203, f 204, f 205, f 206, f 207, f 208, f 209, f 210, f 211, f 212, f 213, f 214, f 215, f 216, f 217, f 218, f 219, f 220, f 221, f 222, f 223, f 224, f 225, f 226, f 227, f 228, f 229, f 230, f 231, f 232, f 233, f 234, f 235, f 236, f 237, f 238, f 239, f 240, f 241, f 242, f 243, f 244, f 245, f 246, f 247, f 248, f 249, f 250, f 251, f 252, f 253, f 254, f 255, f 256, f 257, f 258, f 259, f 260, f 261, f 262, f 263, f 264, f 265, f 266, f 267, f 268, f 269, f 270, f 271, f 272, f 273, f 274, f 275, f 276, f 277, f 278, f 279, f 280, f 281, f 282, f 283, f 284, f 285, f 286, f 287, f 288, f 289, f 290, f 291, f 292, f 293, f 294, f 295, f 296, f 297, f 298, f 299, f 300, f 301, f 302, f 303, f 304, f 305, f 306, f 307, f 308, f 309, f 310, f 311, f 312, f 313, f 314, f 315, f 316, f 317, f 318, f 319, f 320, f 321, f 322, f 323, f 324, f 325, f 326, f 327, f 328, f 329, f 330, f 331, f 332, f 333, f 334, f 335, f 336, f 337, f 338, f 339, f 340, f 341, f 342, f 343, f 344, f 345, f 346, f 347, f 348, f 349, f 350, f 351, f 352, f 353, f 354, f 355, f 356, f 357, f 358, f 359, f 360, f 361, f 362], []⟩ W := by
  conv => arg 2; whnf
  have HR := Lib.hid hR
  have H1 := Lib.hid h1
  have HM := Lib.hid hM
  have HTB := Lib.hid htb
  have B0 := Lib.hid hB
  have BW := Lib.hid (Below.refl W.heap.size W)
  clear hR h1 hB hM htb
  cases ob with
  | false =>
    clear hob
    go_upto_if 170 with (fail)
    go_step
    go_step
    go_step
    go_step
    exact wp_of_fn (by kernel_rfl) (fun f => sw_c w W B0.out gt lo A C D ca cb cc t tb lm vm A1 n1 c1 (H1.out.kept BW.out) hm1 (HR.out.keep BW.out) (fun h => own_below (HM.out h) BW.out (Nat.le_refl _)) HTB.out f)
  | true =>
    have hpl := HR.out.o.len
    obtain ⟨hg, g0, g1, hik, hkn, hga⟩ := bs_good hpl hob
    obtain rfl : tb = true := by rw [← HTB.out]; exact hg
    replace HM := Lib.hid (HM.out rfl)
    have hsu : suV t = suT t t.n := by simp [suV, hg]
    obtain ⟨i, gi⟩ : ∃ q9, (bsV t).1 = q9 := ⟨_, rfl⟩
    obtain ⟨k, gk⟩ : ∃ q9, (bsV t).2.1 = q9 := ⟨_, rfl⟩
    obtain ⟨g, gg⟩ : ∃ q9, (bsV t).2.2 = q9 := ⟨_, rfl⟩
    rw [gi] at hik hga
    rw [gk] at hik hkn hga
    rw [gg] at g0 g1 hga
    rw [gi, gk, gg]
    have hsp : spB t (i : Int) (k : Int) = true := sp_of hg (by omega) (by omega)
    have hst : spT t (i : Int) (k : Int) = swT t i k := by rw [sp_is hsp]; rfl
    have hgq := sw_good hg hpl (i := i) (k := k) (by omega) hkn
    have hsq : suV (swT t i k) = suT (swT t i k) t.n := by simp only [suV, hgq, if_true]; rfl
    have hdf : gaT t i k = suT t t.n - suT (swT t i k) t.n := rfl
    have hsm := sp_small (t := t) (i := i) (k := k) HR.out.s
    rw [hst] at hsm
    have hin := suT_in (tr_ok hg) t.n (Nat.le_refl _)
    have hin2 := suT_in (tr_ok hgq) t.n (Nat.le_refl _)
    have hn1 := (tr_ok hg).n1
    have P := SwapPlaces_any (.agg #[.slice A t.n ca, .slice C t.m cb, .int .i64 t.c, .slice D t.p cc]) lo t i k W HR.out.o HR.out.s
    rw [hsp, hst] at P
    obtain ⟨q, gq⟩ : ∃ q9, swT t i k = q9 := ⟨_, rfl⟩
    rw [gq] at P hsq hdf hsm hgq hin2
    have Q := fun (V : World) (l2 : Nat) (v : Value) (h : OwnA V l2 v q) => SquareSum_any v V.heap.size q V h.cap h.rd (Nat.le_refl _) hsm
    rw [hgq] at Q
    rw [hsq] at Q
    obtain ⟨s1, gs1⟩ : ∃ q9, suT t t.n = q9 := ⟨_, rfl⟩
    obtain ⟨s2, gs2⟩ : ∃ q9, suT q t.n = q9 := ⟨_, rfl⟩
    rw [gs1] at hdf hin hsu
    rw [gs2] at hdf Q hin2
    rw [← hga] at hdf
    have HSU := Lib.hid hsu
    rw [hsu]
    have HPP := Lib.hid P
    have HQQ := Lib.hid Q
    have i1 := IntWalk.i64_in (s1 - g) (by omega)
    have n9 : (s2 != s1 - g) = false := by simp; omega
    have d1 : decide (g < 1) = false := by simp; omega
    clear P Q hpl hob hg g0 g1 hik hkn hga hsp hst hgq hsq hdf hsm hin hin2 hn1 gi gk gg gq gs1 gs2 hsu
    obtain ⟨k0, k1, k2, k3⟩ := HR.out.k.c4
    go_wp2_with fail
    refine (HPP.out).mono ?_
    rintro e w1 ⟨r1, rfl, oa, hb⟩
    replace B0 := Lib.hid (below_on B0.out hb)
    replace BW := Lib.hid (below_on BW.out hb)
    clear hb
    clear k0 k1 k2 k3
    obtain ⟨Ax, cax, Cx, cbx, Dx, ccx, rfl, -, -, -⟩ := oa.form
    have Ox := Lib.hid oa
    clear oa
    have Kx := Lib.hid (Blk.new w1 27 #[.slice Ax q.n cax, .slice Cx q.m cbx, .int .i64 q.c, .slice Dx q.p ccx])
    replace B0 := Lib.hid (below_new B0.out (.cells #[.slice Ax q.n cax, .slice Cx q.m cbx, .int .i64 q.c, .slice Dx q.p ccx] 27))
    replace BW := Lib.hid (below_new BW.out (.cells #[.slice Ax q.n cax, .slice Cx q.m cbx, .int .i64 q.c, .slice Dx q.p ccx] 27))
    replace Ox := Lib.hid (Ox.out.keep (below_new (Below.refl _ _) (.cells #[.slice Ax q.n cax, .slice Cx q.m cbx, .int .i64 q.c, .slice Dx q.p ccx] 27)))
    obtain ⟨x0, x1, x2, x3⟩ := Kx.out.c4
    go_wp2_with fail
    refine (HQQ.out _ _ _ Ox.out).mono ?_
    rintro e w2 ⟨rfl, hb⟩
    replace B0 := Lib.hid (below_on B0.out hb)
    replace BW := Lib.hid (below_on BW.out hb)
    replace Ox := Lib.hid (Ox.out.keep hb)
    replace Kx := Lib.hid (Kx.out.on hb)
    clear hb
    clear x0 x1 x2 x3
    go_upto_if 199 with (fail)
    go_step
    go_step
    go_step
    go_step
    rw [← HSU.out]
    exact wp_of_fn (by kernel_rfl) (fun f => sw_c w w2 B0.out gt lo A C D ca cb cc t true lm vm A1 n1 c1 (H1.out.kept BW.out) hm1 (HR.out.keep BW.out) (fun _ => own_below HM.out BW.out (Nat.le_refl _)) HTB.out f)
end Go.Proofs.Ytjcepipgjpaclaa
