/- The law on transitions from the look at the drawn one on. Condition: that transition is owned. The law on transitions from the comparison of the least, the even and the plain one on. Condition: what both sides have found. -/
import Derived.Test.YtnlneblipedddaaPFnTransitions09
import Derived.Test.YtnlneblipedddaaPFnTransitions39
import Derived.Test.YtnlneblipedddaaPFnTransitions40
namespace Go.Proofs.Ytnlneblipedddaa
open Go.RowKit

noncomputable def trnBody : Code := (Try.f3.body).getD .skip
/-- A transition in a cell of the law's. -/
structure TrR (W : World) (g lo : Nat) (A C D : Option Addr) (ca cb cc : Nat) (t : TrN) : Prop where
  k : Blk W g 29 #[.slice A t.n ca, .slice C t.m cb, .int .i64 t.c, .slice D t.p cc]
  o : OwnA W lo (.agg #[.slice A t.n ca, .slice C t.m cb, .int .i64 t.c, .slice D t.p cc]) t
  s : t.small
theorem TrR.keep {W W' : World} {g lo : Nat} {A C D : Option Addr} {ca cb cc : Nat} {t : TrN} (h : TrR W g lo A C D ca cb cc t) (hb : Below W.heap.size W W') : TrR W' g lo A C D ca cb cc t := ⟨h.k.on hb, h.o.keep hb, h.s⟩
/-- An owned list of spots. -/
structure RowR (W : World) (lo : Nat) (v : Value) (n : Nat) (xs : List Int) : Prop where
  o : W.ownsRow lo 75 2 v n (ints xs)
theorem RowR.keep {W W' : World} {lo n : Nat} {v : Value} {xs : List Int} (h : RowR W lo v n xs) (hb : Below W.heap.size W W') : RowR W' lo v n xs := ⟨own_below h.o hb (Nat.le_refl _)⟩
set_option maxRecDepth 100000 in
set_option maxHeartbeats 4000000 in
theorem specIsTransition_any (v : Value) (B : Nat) (t : TrN) (w : World) (hcp : CapT v) (hv : RdT w B v t) (hB : B ≤ w.heap.size) (hs : t.small) :
    Calls Try.prog 16 #[v] w fun e w' => e = .returned (.bool (trB t)) ∧ Below w.heap.size w w' := by
  have P := Lib.hid (fun W (hb : Below w.heap.size w W) => asGood_any v B t W hcp (hv.below' hb hB) (Nat.le_trans hB hb.size) hs)
  obtain ⟨A, ca, C, cb, D, cc, rfl, -, -, -⟩ := hv.form
  have K0 := Lib.hid (Blk.new w 29 #[.slice A t.n ca, .slice C t.m cb, .int .i64 t.c, .slice D t.p cc])
  have HB0 := Lib.hid (below_new (Below.refl w.heap.size w) (.cells #[.slice A t.n ca, .slice C t.m cb, .int .i64 t.c, .slice D t.p cc] 29))
  obtain ⟨a0, a1, a2, a3⟩ := K0.out.c4
  clear hv hcp hs
  go_enter Try.func16, Try.ntmps16
  go_wp2_with fail
  refine (P.out _ HB0.out).mono ?_
  rintro e w2 ⟨rfl, hb⟩
  have HB1 := Lib.hid (below_on HB0.out hb)
  clear hb a0 a1 a2 a3 K0 HB0
  go_wp2_with fail
  go_ret
  exact ⟨rfl, HB1.out⟩
theorem SameForm_to {W : World} {lo l1 : Nat} {v : Value} {A C D : Option Addr} {ca cb cc : Nat} {t : TrN} (h : OwnA W lo (.agg #[.slice A t.n ca, .slice C t.m cb, .int .i64 t.c, .slice D t.p cc]) t) (hx : W.ownsRow l1 75 2 v t.n (ints (arL t t.n))) (hg : trB t = true) :
    Calls Try.prog 22 #[v, .slice C t.m cb] W fun e w' => e = .returned (.tuple #[.bool true, .bool true]) ∧ Below W.heap.size W w' := by
  obtain ⟨_, _, _, ev, -, h2, -⟩ := h
  simp only [Value.agg.injEq, Array.mk.injEq, List.cons.injEq] at ev
  rw [← ev.2.1] at h2
  have hok := tr_ok hg
  rw [hok.m] at h2 ⊢
  exact SameForm_yes v _ t.n W.heap.size _ t.ys W (own_cap hx) (own_cap h2) (Rd.of_own hx) (Rd.of_own h2) (Nat.le_refl _) (by have := hok.n1; omega) (ar_chart hg) (tr_to hg) (ar_in hg)
set_option maxRecDepth 100000 in
set_option maxHeartbeats 4000000 in
theorem trn_a (w W : World) (hB : Below w.heap.size w W) (gt lt : Nat) (At Ct Dt : Option Addr) (cat cbt cct : Nat) (t : TrN) (hR : TrR W gt lt At Ct Dt cat cbt cct t) (f : Nat → Value) :
    Code.wp Try.prog (tailOf 13 trnBody) (bodyPost Try.prog Try.f3 (fun e w' => e = .returned (.bool true) ∧ Below w.heap.size w w')) ⟨#[f 0, f 1, f 2, f 3, f 4, f 5, f 6, f 7, f 8, f 9, f 10, f 11, f 12, f 13, f 14, f 15, f 16, f 17, f 18, f 19, .pointer (some ⟨gt, 0, none⟩), f 21, f 22, f 23, f 24, f 25, f 26, f 27, f 28, f 29, f 30, f 31, f 32, f 33, f 34, f 35, f 36, f 37, f 38, f 39, f 40, f 41, f 42, f 43, f 44, f 45, f 46, f 47, f 48, f 49, f 50, f 51, f 52, f 53, f 54, f 55, f 56, f 57, f 58, f 59, f 60, f 61, f 62, f 63, f 64, f 65, f 66, f 67, f 68, f 69, f 70, f 71, f 72, f 73, f 74, f 75, f 76, f 77, f 78, f 79, f 80, f 81, f 82, f 83, f 84, f 85, f 86, f 87, f 88, f 89, f 90, f 91, f 92, f 93, f 94, f 95, f 96, f 97, f 98, f 99, f 100, f 101, f 102, f 103, f 104, f 105, f 106, f 107, f 108, f 109, f 110, f 111, f 112, f 113, f 114, f 115, f 116, f 117, f 118, f 119, f 120, f 121, f 122, f 123, f 124, f 125, f 126, f 127, f 128, f 129, f 130, f 131, f 132, f 133, f 134, f 135, f 136, f 137, f 138, f 139, f 140, f 141, f 142, f 143, f 144, f 145, f 146, f 147, f 148, f 149, f 150, f 151, f 152, f 153, f 154, f 155, f 156, f 157, f 158, f 159, f 160, f 161, f 162, f 163, f 164, f 165, f 166, f 167, f 168, f 169, f 170, f 171, f 172, f 173, f 174, f 175, f 176, f 177, f 178, f 179, f 180, f 181, f 182, f 183, f 184, f 185, f 186, f 187, f 188, f 189, f 190, f 191, f 192, f 193, f 194, f 195, f 196, f 197, f 198, f 199, f 200, f 201, f 202, f 203, f 204, f 205, f 206, f 207, f 208, f 209, f 210, f 211, f 212, f 213, f 214, f 215, f 216, f 217, f 218, f 219, f 220, f 221, f 222, f 223, f 224, f 225, f 226, f 227, f 228, f 229, f 230, f 231, f 232, f 233, f 234, f 235, f 236, f 237, f 238, f 239, f 240, f 241, f 242, f 243, f 244, f 245, f 246, f 247, f 248, f 249, f 250, f 251, f 252, f 253, f 254, f 255, f 256, f 257, f 258, f 259, f 260, f 261, f 262, f 263, f 264, f 265, f 266, f 267, f 268, f 269, f 270, f 271, f 272, f 273, f 274, f 275, f 276, f 277, f 278, f 279, f 280, f 281, f 282, f 283, f 284, f 285, f 286, f 287, f 288, f 289, f 290, f 291, f 292, f 293, f 294, f 295, f 296, f 297, f 298, f 299, f 300, f 301, f 302, f 303, f 304, f 305, f 306, f 307, f 308, f 309, f 310, f 311, f 312, f 313, f 314, f 315, f 316, f 317, f 318, f 319, f 320, f 321, f 322, f 323, f 324, f 325, f 326, f 327, f 328, f 329, f 330], []⟩ W := by
  conv => arg 2; whnf
  have Kt := Lib.hid hR.k
  have Ot := Lib.hid hR.o
  have ST := Lib.hid hR.s
  have B0 := Lib.hid hB
  clear hR hB
  obtain ⟨tb, gtb⟩ : ∃ q9, trB t = q9 := ⟨_, rfl⟩
  have P := fun (W : World) (lo : Nat) (h : OwnA W lo (.agg #[.slice At t.n cat, .slice Ct t.m cbt, .int .i64 t.c, .slice Dt t.p cct]) t) => IsTransition_any (.agg #[.slice At t.n cat, .slice Ct t.m cbt, .int .i64 t.c, .slice Dt t.p cct]) W.heap.size t W h.cap h.rd (Nat.le_refl _) ST.out
  rw [gtb] at P
  replace P := Lib.hid P
  obtain ⟨k0, k1, k2, k3⟩ := Kt.out.c4
  have HG := Lib.hid gtb
  clear gtb
  go_wp2_with fail
  refine (P.out _ _ Ot.out).mono ?_
  rintro e w1 ⟨rfl, hb⟩
  replace B0 := Lib.hid (below_on B0.out hb)
  replace Kt := Lib.hid (Kt.out.on hb)
  replace Ot := Lib.hid (Ot.out.keep hb)
  clear hb
  clear k0 k1 k2 k3
  clear P
  cases tb with
  | false =>
    go_wp2_with fail
    go_ret
    exact ⟨rfl, B0.out⟩
  | true =>
    have P := fun (W : World) (lo : Nat) (h : OwnA W lo (.agg #[.slice At t.n cat, .slice Ct t.m cbt, .int .i64 t.c, .slice Dt t.p cct]) t) => ArrivesAs_yes (.agg #[.slice At t.n cat, .slice Ct t.m cbt, .int .i64 t.c, .slice Dt t.p cct]) W.heap.size t W h.cap h.rd (Nat.le_refl _) ST.out HG.out
    replace P := Lib.hid P
    obtain ⟨k0, k1, k2, k3⟩ := Kt.out.c4
    go_wp2_with fail
    refine (P.out _ _ Ot.out).mono ?_
    rintro e w2 ⟨u1, rfl, ho, hb⟩
    replace B0 := Lib.hid (below_on B0.out hb)
    replace Kt := Lib.hid (Kt.out.on hb)
    replace Ot := Lib.hid (Ot.out.keep hb)
    clear hb
    obtain ⟨S1, s1, rfl⟩ := (Rd.of_own ho).form
    have W1 := Lib.hid ho
    clear ho P
    clear k0 k1 k2 k3
    have P := fun (W : World) (lo : Nat) (h : OwnA W lo (.agg #[.slice At t.n cat, .slice Ct t.m cbt, .int .i64 t.c, .slice Dt t.p cct]) t) => specArrivesAs_yes (.agg #[.slice At t.n cat, .slice Ct t.m cbt, .int .i64 t.c, .slice Dt t.p cct]) W.heap.size t W h.cap h.rd (Nat.le_refl _) ST.out HG.out
    replace P := Lib.hid P
    obtain ⟨k0, k1, k2, k3⟩ := Kt.out.c4
    go_wp2_with fail
    refine (P.out _ _ Ot.out).mono ?_
    rintro e w3 ⟨u2, rfl, ho, hb⟩
    replace B0 := Lib.hid (below_on B0.out hb)
    replace Kt := Lib.hid (Kt.out.on hb)
    replace Ot := Lib.hid (Ot.out.keep hb)
    replace W1 := Lib.hid (own_below W1.out hb (Nat.le_refl _))
    clear hb
    obtain ⟨S2, s2, rfl⟩ := (Rd.of_own ho).form
    have W2 := Lib.hid ho
    clear ho P
    clear k0 k1 k2 k3
    obtain ⟨k0, k1, k2, k3⟩ := Kt.out.c4
    go_wp2_with fail
    refine (SameForm_to Ot.out W1.out HG.out).mono ?_
    rintro e w4 ⟨rfl, hb⟩
    replace B0 := Lib.hid (below_on B0.out hb)
    replace Kt := Lib.hid (Kt.out.on hb)
    replace Ot := Lib.hid (Ot.out.keep hb)
    replace W1 := Lib.hid (own_below W1.out hb (Nat.le_refl _))
    replace W2 := Lib.hid (own_below W2.out hb (Nat.le_refl _))
    clear hb
    clear k0 k1 k2 k3
    go_wp2_with fail
    refine (pSameSpots_same _ _ t.n _ (arL t t.n) _ (Rd.of_own W1.out) (Rd.of_own W2.out) (Nat.le_refl _) (by have := ST.out.1; omega)).mono ?_
    rintro e w5 ⟨rfl, hb⟩
    replace B0 := Lib.hid (below_on B0.out hb)
    replace Kt := Lib.hid (Kt.out.on hb)
    replace Ot := Lib.hid (Ot.out.keep hb)
    replace W1 := Lib.hid (own_below W1.out hb (Nat.le_refl _))
    replace W2 := Lib.hid (own_below W2.out hb (Nat.le_refl _))
    clear hb
    go_wp2_with fail
    go_ret
    exact ⟨rfl, B0.out⟩
end Go.Proofs.Ytnlneblipedddaa

namespace Go.Proofs.Ytnlneblipedddaa
open Go.RowKit

theorem prd_in {p q P Q : Int} (h1 : 0 ≤ p) (h2 : p ≤ P) (h3 : 0 ≤ q) (h4 : q ≤ Q) : 0 ≤ p * q ∧ p * q ≤ P * Q := ⟨Int.mul_nonneg h1 h3, Int.mul_le_mul h2 h4 h3 (by omega)⟩
/-- What the law asks of the least, the even and the plain transition. -/
theorem tr_all {n : Nat} {xs ys : List Int} {c : Int} (h : aaB n xs n ys c = true) : ∃ t1 t2 t3 : TrN, ltT n xs n ys c = t1 ∧ evT n xs n ys c = t2 ∧ plT n xs n ys c = t3 ∧ trB t1 = true ∧ trB t2 = true ∧ trB t3 = true ∧ suV t1 ≤ suV t2 ∧ suV t1 ≤ suV t3 ∧
    (wdT t2).1 * (wdT t1).2 ≤ (wdT t1).1 * (wdT t2).2 ∧ (wdT t2).1 * (wdT t3).2 ≤ (wdT t3).1 * (wdT t2).2 ∧ bsB t1 = false ∧ t1.n = n ∧ t1.ys = ys ∧ chB n ys = true := by
  refine ⟨_, _, _, lt_is h, ev_is h, pl_is h, lt_good h, ev_good h, pl_good h, ?_, ?_, wd_le (ev_good h) (lt_good h) rfl (ev_least h (lt_good h)), wd_le (ev_good h) (pl_good h) rfl (ev_least h (pl_good h)), lt_noswap h, rfl, rfl, tr_to (lt_good h)⟩
  · rw [suV, suV, if_pos (lt_good h), if_pos (ev_good h)]
    exact lt_least h (ev_good h)
  · rw [suV, suV, if_pos (lt_good h), if_pos (pl_good h)]
    exact lt_least h (pl_good h)
set_option maxRecDepth 100000 in
set_option maxHeartbeats 4000000 in
theorem trn_b (w W : World) (hB : Below w.heap.size w W) (gt lt : Nat) (At Ct Dt : Option Addr) (cat cbt cct : Nat) (t : TrN) (hR : TrR W gt lt At Ct Dt cat cbt cct t) (n m : Nat) (xs ys : List Int) (c : Int) (ob : Bool) (hob : aaB n xs m ys c = ob) (lb cab : Nat) (Ab : Option Addr) (hb9 : RowR W lb (.slice Ab m cab) m ys) (g1 l1 : Nat) (A1 C1 D1 : Option Addr) (ca1 cb1 cc1 : Nat) (h1 : TrR W g1 l1 A1 C1 D1 ca1 cb1 cc1 (ltT n xs m ys c)) (g2 l2 : Nat) (A2 C2 D2 : Option Addr) (ca2 cb2 cc2 : Nat) (h2 : TrR W g2 l2 A2 C2 D2 ca2 cb2 cc2 (ltT n xs m ys c)) (g3 l3 : Nat) (A3 C3 D3 : Option Addr) (ca3 cb3 cc3 : Nat) (h3 : TrR W g3 l3 A3 C3 D3 ca3 cb3 cc3 (evT n xs m ys c)) (g5 l5 : Nat) (A5 C5 D5 : Option Addr) (ca5 cb5 cc5 : Nat) (h5 : TrR W g5 l5 A5 C5 D5 ca5 cb5 cc5 (plT n xs m ys c)) (f : Nat → Value) :
    Code.wp Try.prog (tailOf 12 trnBody) (bodyPost Try.prog Try.f3 (fun e w' => e = .returned (.bool true) ∧ Below w.heap.size w w')) ⟨#[f 0, f 1, f 2, f 3, f 4, f 5, .slice Ab m cab, f 7, .pointer (some ⟨g1, 0, none⟩), .bool ob, .pointer (some ⟨g2, 0, none⟩), f 11, .pointer (some ⟨g3, 0, none⟩), f 13, f 14, f 15, .pointer (some ⟨g5, 0, none⟩), f 17, f 18, f 19, .pointer (some ⟨gt, 0, none⟩), f 21, f 22, f 23, f 24, f 25, f 26, f 27, f 28, f 29, f 30, f 31, f 32, f 33, f 34, f 35, f 36, f 37, f 38, f 39, f 40, f 41, f 42, f 43, f 44, f 45, f 46, f 47, f 48, f 49, f 50, f 51, f 52, f 53, f 54, f 55, f 56, f 57, f 58, f 59, f 60, f 61, f 62, f 63, f 64, f 65, f 66, f 67, f 68, f 69, f 70, f 71, f 72, f 73, f 74, f 75, f 76, f 77, f 78, f 79, f 80, f 81, f 82, f 83, f 84, f 85, f 86, f 87, f 88, f 89, f 90, f 91, f 92, f 93, f 94, f 95, f 96, f 97, f 98, f 99, f 100, f 101, f 102, f 103, f 104, f 105, f 106, f 107, f 108, f 109, f 110, f 111, f 112, f 113, f 114, f 115, f 116, f 117, f 118, f 119, f 120, f 121, f 122, f 123, f 124, f 125, f 126, f 127, f 128, f 129, f 130, f 131, f 132, f 133, f 134, f 135, f 136, f 137, f 138, f 139, f 140, f 141, f 142, f 143, f 144, f 145, f 146, f 147, f 148, f 149, f 150, f 151, f 152, f 153, f 154, f 155, f 156, f 157, f 158, f 159, f 160, f 161, f 162, f 163, f 164, f 165, f 166, f 167, f 168, f 169, f 170, f 171, f 172, f 173, f 174, f 175, f 176, f 177, f 178, f 179, f 180, f 181, f 182, f 183, f 184, f 185, f 186, f 187, f 188, f 189, f 190, f 191, f 192, f 193, f 194, f 195, f 196, f 197, f 198, f 199, f 200, f 201, f 202, f 203, f 204, f 205, f 206, f 207, f 208, f 209, f 210, f 211, f 212, f 213, f 214, f 215, f 216, f 217, f 218, f 219, f 220, f 221, f 222, f 223, f 224, f 225, f 226, f 227, f 228, f 229, f 230, f 231, f 232, f 233, f 234, f 235, f 236, f 237, f 238, f 239, f 240, f 241, f 242, f 243, f 244, f 245, f 246, f 247, f 248, f 249, f 250, f 251, f 252, f 253, f 254, f 255, f 256, f 257, f 258, f 259, f 260, f 261, f 262, f 263, f 264, f 265, f 266, f 267, f 268, f 269, f 270, f 271, f 272, f 273, f 274, f 275, f 276, f 277, f 278, f 279, f 280, f 281, f 282, f 283, f 284, f 285, f 286, f 287, f 288, f 289, f 290, f 291, f 292, f 293, f 294, f 295, f 296, f 297, f 298, f 299, f 300, f 301, f 302, f 303, f 304, f 305, f 306, f 307, f 308, f 309, f 310, f 311, f 312, f 313, f 314, f 315, f 316, f 317, f 318, f 319, f 320, f 321, f 322, f 323, f 324, f 325, f 326, f 327, f 328, f 329, f 330], []⟩ W := by
  conv => arg 2; whnf
  have B0 := Lib.hid hB
  have Rt := Lib.hid hR
  clear hB hR
  cases ob with
  | false =>
    clear hob hb9 h1 h2 h3 h5
    go_upto_if 151 with (fail)
    go_step
    go_step
    go_step
    go_step
    repeat (first | exact wp_of_fn (by kernel_rfl) (fun f => trn_a w W B0.out gt lt At Ct Dt cat cbt cct t Rt.out f) | go_step)
  | true =>
    obtain ⟨hnn, hmn, -, -, -⟩ := aa_yes hob
    subst hmn
    obtain ⟨t1, t2, t3, e1, e2, e3, q1, q2, q3, s12, s13, w12, w32, nsw, htn, hty, hch⟩ := tr_all hob
    rw [e1] at h1 h2
    rw [e2] at h3
    rw [e3] at h5
    clear e1 e2 e3 hob
    have K1 := Lib.hid h1.k
    have O1 := Lib.hid h1.o
    have S1 := Lib.hid h1.s
    clear h1
    have K2 := Lib.hid h2.k
    have O2 := Lib.hid h2.o
    have S2 := Lib.hid h2.s
    clear h2
    have K3 := Lib.hid h3.k
    have O3 := Lib.hid h3.o
    have S3 := Lib.hid h3.s
    clear h3
    have K5 := Lib.hid h5.k
    have O5 := Lib.hid h5.o
    have S5 := Lib.hid h5.s
    clear h5
    have Ob := Lib.hid hb9
    clear hb9
    have b1 := wd_box q1
    have b2 := wd_box q2
    have b3 := wd_box q3
    have q4 := ar_chart q1
    have q5 := ar_in q1
    rw [htn] at q4 q5
    rw [hty] at q5
    have PS1 := fun (W : World) (lo : Nat) (h : OwnA W lo (.agg #[.slice A1 t1.n ca1, .slice C1 t1.m cb1, .int .i64 t1.c, .slice D1 t1.p cc1]) t1) => SquareSum_any (.agg #[.slice A1 t1.n ca1, .slice C1 t1.m cb1, .int .i64 t1.c, .slice D1 t1.p cc1]) W.heap.size t1 W h.cap h.rd (Nat.le_refl _) S1.out
    rw [q1] at PS1
    replace PS1 := Lib.hid PS1
    have PS2 := fun (W : World) (lo : Nat) (h : OwnA W lo (.agg #[.slice A2 t1.n ca2, .slice C2 t1.m cb2, .int .i64 t1.c, .slice D2 t1.p cc2]) t1) => specSquareSum_any (.agg #[.slice A2 t1.n ca2, .slice C2 t1.m cb2, .int .i64 t1.c, .slice D2 t1.p cc2]) W.heap.size t1 W h.cap h.rd (Nat.le_refl _) S2.out
    rw [q1] at PS2
    replace PS2 := Lib.hid PS2
    have PS3 := fun (W : World) (lo : Nat) (h : OwnA W lo (.agg #[.slice A3 t2.n ca3, .slice C3 t2.m cb3, .int .i64 t2.c, .slice D3 t2.p cc3]) t2) => SquareSum_any (.agg #[.slice A3 t2.n ca3, .slice C3 t2.m cb3, .int .i64 t2.c, .slice D3 t2.p cc3]) W.heap.size t2 W h.cap h.rd (Nat.le_refl _) S3.out
    rw [q2] at PS3
    replace PS3 := Lib.hid PS3
    have PS5 := fun (W : World) (lo : Nat) (h : OwnA W lo (.agg #[.slice A5 t3.n ca5, .slice C5 t3.m cb5, .int .i64 t3.c, .slice D5 t3.p cc5]) t3) => SquareSum_any (.agg #[.slice A5 t3.n ca5, .slice C5 t3.m cb5, .int .i64 t3.c, .slice D5 t3.p cc5]) W.heap.size t3 W h.cap h.rd (Nat.le_refl _) S5.out
    rw [q3] at PS5
    replace PS5 := Lib.hid PS5
    have PW1 := fun (W : World) (lo : Nat) (h : OwnA W lo (.agg #[.slice A1 t1.n ca1, .slice C1 t1.m cb1, .int .i64 t1.c, .slice D1 t1.p cc1]) t1) => WidestStep_any (.agg #[.slice A1 t1.n ca1, .slice C1 t1.m cb1, .int .i64 t1.c, .slice D1 t1.p cc1]) W.heap.size t1 W h.cap h.rd (Nat.le_refl _) S1.out
    rw [q1] at PW1
    replace PW1 := Lib.hid PW1
    have PW3 := fun (W : World) (lo : Nat) (h : OwnA W lo (.agg #[.slice A3 t2.n ca3, .slice C3 t2.m cb3, .int .i64 t2.c, .slice D3 t2.p cc3]) t2) => WidestStep_any (.agg #[.slice A3 t2.n ca3, .slice C3 t2.m cb3, .int .i64 t2.c, .slice D3 t2.p cc3]) W.heap.size t2 W h.cap h.rd (Nat.le_refl _) S3.out
    rw [q2] at PW3
    replace PW3 := Lib.hid PW3
    have PW5 := fun (W : World) (lo : Nat) (h : OwnA W lo (.agg #[.slice A5 t3.n ca5, .slice C5 t3.m cb5, .int .i64 t3.c, .slice D5 t3.p cc5]) t3) => WidestStep_any (.agg #[.slice A5 t3.n ca5, .slice C5 t3.m cb5, .int .i64 t3.c, .slice D5 t3.p cc5]) W.heap.size t3 W h.cap h.rd (Nat.le_refl _) S5.out
    rw [q3] at PW5
    replace PW5 := Lib.hid PW5
    have PB := fun (W : World) (lo : Nat) (h : OwnA W lo (.agg #[.slice A1 t1.n ca1, .slice C1 t1.m cb1, .int .i64 t1.c, .slice D1 t1.p cc1]) t1) => BestSwap_any (.agg #[.slice A1 t1.n ca1, .slice C1 t1.m cb1, .int .i64 t1.c, .slice D1 t1.p cc1]) lo t1 W h S1.out
    rw [nsw] at PB
    replace PB := Lib.hid PB
    have PA := fun (W : World) (lo : Nat) (h : OwnA W lo (.agg #[.slice A1 t1.n ca1, .slice C1 t1.m cb1, .int .i64 t1.c, .slice D1 t1.p cc1]) t1) => ArrivesAs_yes (.agg #[.slice A1 t1.n ca1, .slice C1 t1.m cb1, .int .i64 t1.c, .slice D1 t1.p cc1]) W.heap.size t1 W h.cap h.rd (Nat.le_refl _) S1.out q1
    replace PA := Lib.hid PA
    have HTN := Lib.hid htn
    have Q4 := Lib.hid q4
    have Q5 := Lib.hid q5
    have Q6 := Lib.hid hch
    have HNN := Lib.hid hnn
    clear q1 q2 q3 q4 q5 nsw htn hty hch hnn
    obtain ⟨s1, gs1⟩ : ∃ q9, suV t1 = q9 := ⟨_, rfl⟩
    obtain ⟨s2, gs2⟩ : ∃ q9, suV t2 = q9 := ⟨_, rfl⟩
    obtain ⟨s3, gs3⟩ : ∃ q9, suV t3 = q9 := ⟨_, rfl⟩
    obtain ⟨u, gu⟩ : ∃ q9, (wdT t1).1 = q9 := ⟨_, rfl⟩
    obtain ⟨v, gv⟩ : ∃ q9, (wdT t1).2 = q9 := ⟨_, rfl⟩
    obtain ⟨x, gx⟩ : ∃ q9, (wdT t2).1 = q9 := ⟨_, rfl⟩
    obtain ⟨y, gy⟩ : ∃ q9, (wdT t2).2 = q9 := ⟨_, rfl⟩
    obtain ⟨p, gp⟩ : ∃ q9, (wdT t3).1 = q9 := ⟨_, rfl⟩
    obtain ⟨z, gz⟩ : ∃ q9, (wdT t3).2 = q9 := ⟨_, rfl⟩
    rw [gs1] at PS1 PS2 s12 s13
    rw [gs2] at PS3 s12
    rw [gs3] at PS5 s13
    rw [gu] at PW1 w12 b1
    rw [gv] at PW1 w12 b1
    rw [gx] at PW3 w12 w32 b2
    rw [gy] at PW3 w12 w32 b2
    rw [gp] at PW5 w32 b3
    rw [gz] at PW5 w32 b3
    have m1 := prd_in (p := x) (P := 2100000) (q := v) (Q := 4096) (by omega) (by omega) (by omega) (by omega)
    have m2 := prd_in (p := u) (P := 2100000) (q := y) (Q := 4096) (by omega) (by omega) (by omega) (by omega)
    have m3 := prd_in (p := x) (P := 2100000) (q := z) (Q := 4096) (by omega) (by omega) (by omega) (by omega)
    have m4 := prd_in (p := p) (P := 2100000) (q := y) (Q := 4096) (by omega) (by omega) (by omega) (by omega)
    have i1 := IntWalk.i64_in (x * v) (by omega)
    have i2 := IntWalk.i64_in (u * y) (by omega)
    have i3 := IntWalk.i64_in (x * z) (by omega)
    have i4 := IntWalk.i64_in (p * y) (by omega)
    have d1 : (s1 != s1) = false := by simp
    have d2 : decide (s2 < s1) = false := by simp; omega
    have d3 : decide (s3 < s1) = false := by simp; omega
    have d4 : decide (y < 1) = false := by simp; omega
    have d5 : decide (v < 1) = false := by simp; omega
    have d6 : decide (z < 1) = false := by simp; omega
    have d7 : decide (u * y < x * v) = false := by rw [decide_eq_false_iff_not]; omega
    have d8 : decide (p * y < x * z) = false := by rw [decide_eq_false_iff_not]; omega
    clear gs1 gs2 gs3 gu gv gx gy gp gz b1 b2 b3 s12 s13 w12 w32 m1 m2 m3 m4
    obtain ⟨k0, k1, k2, k3⟩ := K1.out.c4
    go_wp2_with fail
    refine (PS1.out _ _ O1.out).mono ?_
    rintro e w1 ⟨rfl, hb⟩
    replace B0 := Lib.hid (below_on B0.out hb)
    replace Rt := Lib.hid (Rt.out.keep hb)
    replace K1 := Lib.hid (K1.out.on hb)
    replace O1 := Lib.hid (O1.out.keep hb)
    replace K2 := Lib.hid (K2.out.on hb)
    replace O2 := Lib.hid (O2.out.keep hb)
    replace K3 := Lib.hid (K3.out.on hb)
    replace O3 := Lib.hid (O3.out.keep hb)
    replace K5 := Lib.hid (K5.out.on hb)
    replace O5 := Lib.hid (O5.out.keep hb)
    replace Ob := Lib.hid (Ob.out.keep hb)
    clear hb
    clear k0 k1 k2 k3
    obtain ⟨k0, k1, k2, k3⟩ := K2.out.c4
    go_wp2_with fail
    refine (PS2.out _ _ O2.out).mono ?_
    rintro e w2 ⟨rfl, hb⟩
    replace B0 := Lib.hid (below_on B0.out hb)
    replace Rt := Lib.hid (Rt.out.keep hb)
    replace K1 := Lib.hid (K1.out.on hb)
    replace O1 := Lib.hid (O1.out.keep hb)
    replace K2 := Lib.hid (K2.out.on hb)
    replace O2 := Lib.hid (O2.out.keep hb)
    replace K3 := Lib.hid (K3.out.on hb)
    replace O3 := Lib.hid (O3.out.keep hb)
    replace K5 := Lib.hid (K5.out.on hb)
    replace O5 := Lib.hid (O5.out.keep hb)
    replace Ob := Lib.hid (Ob.out.keep hb)
    clear hb
    clear k0 k1 k2 k3
    obtain ⟨k0, k1, k2, k3⟩ := K3.out.c4
    go_wp2_with fail
    refine (PS3.out _ _ O3.out).mono ?_
    rintro e w3 ⟨rfl, hb⟩
    replace B0 := Lib.hid (below_on B0.out hb)
    replace Rt := Lib.hid (Rt.out.keep hb)
    replace K1 := Lib.hid (K1.out.on hb)
    replace O1 := Lib.hid (O1.out.keep hb)
    replace K2 := Lib.hid (K2.out.on hb)
    replace O2 := Lib.hid (O2.out.keep hb)
    replace K3 := Lib.hid (K3.out.on hb)
    replace O3 := Lib.hid (O3.out.keep hb)
    replace K5 := Lib.hid (K5.out.on hb)
    replace O5 := Lib.hid (O5.out.keep hb)
    replace Ob := Lib.hid (Ob.out.keep hb)
    clear hb
    clear k0 k1 k2 k3
    obtain ⟨k0, k1, k2, k3⟩ := K5.out.c4
    go_wp2_with fail
    refine (PS5.out _ _ O5.out).mono ?_
    rintro e w4 ⟨rfl, hb⟩
    replace B0 := Lib.hid (below_on B0.out hb)
    replace Rt := Lib.hid (Rt.out.keep hb)
    replace K1 := Lib.hid (K1.out.on hb)
    replace O1 := Lib.hid (O1.out.keep hb)
    replace K2 := Lib.hid (K2.out.on hb)
    replace O2 := Lib.hid (O2.out.keep hb)
    replace K3 := Lib.hid (K3.out.on hb)
    replace O3 := Lib.hid (O3.out.keep hb)
    replace K5 := Lib.hid (K5.out.on hb)
    replace O5 := Lib.hid (O5.out.keep hb)
    replace Ob := Lib.hid (Ob.out.keep hb)
    clear hb
    clear k0 k1 k2 k3
    obtain ⟨k0, k1, k2, k3⟩ := K3.out.c4
    go_wp2_with fail
    refine (PW3.out _ _ O3.out).mono ?_
    rintro e w5 ⟨rfl, hb⟩
    replace B0 := Lib.hid (below_on B0.out hb)
    replace Rt := Lib.hid (Rt.out.keep hb)
    replace K1 := Lib.hid (K1.out.on hb)
    replace O1 := Lib.hid (O1.out.keep hb)
    replace K2 := Lib.hid (K2.out.on hb)
    replace O2 := Lib.hid (O2.out.keep hb)
    replace K3 := Lib.hid (K3.out.on hb)
    replace O3 := Lib.hid (O3.out.keep hb)
    replace K5 := Lib.hid (K5.out.on hb)
    replace O5 := Lib.hid (O5.out.keep hb)
    replace Ob := Lib.hid (Ob.out.keep hb)
    clear hb
    clear k0 k1 k2 k3
    obtain ⟨k0, k1, k2, k3⟩ := K1.out.c4
    go_wp2_with fail
    refine (PW1.out _ _ O1.out).mono ?_
    rintro e w6 ⟨rfl, hb⟩
    replace B0 := Lib.hid (below_on B0.out hb)
    replace Rt := Lib.hid (Rt.out.keep hb)
    replace K1 := Lib.hid (K1.out.on hb)
    replace O1 := Lib.hid (O1.out.keep hb)
    replace K2 := Lib.hid (K2.out.on hb)
    replace O2 := Lib.hid (O2.out.keep hb)
    replace K3 := Lib.hid (K3.out.on hb)
    replace O3 := Lib.hid (O3.out.keep hb)
    replace K5 := Lib.hid (K5.out.on hb)
    replace O5 := Lib.hid (O5.out.keep hb)
    replace Ob := Lib.hid (Ob.out.keep hb)
    clear hb
    clear k0 k1 k2 k3
    obtain ⟨k0, k1, k2, k3⟩ := K5.out.c4
    go_wp2_with fail
    refine (PW5.out _ _ O5.out).mono ?_
    rintro e w7 ⟨rfl, hb⟩
    replace B0 := Lib.hid (below_on B0.out hb)
    replace Rt := Lib.hid (Rt.out.keep hb)
    replace K1 := Lib.hid (K1.out.on hb)
    replace O1 := Lib.hid (O1.out.keep hb)
    replace K2 := Lib.hid (K2.out.on hb)
    replace O2 := Lib.hid (O2.out.keep hb)
    replace K3 := Lib.hid (K3.out.on hb)
    replace O3 := Lib.hid (O3.out.keep hb)
    replace K5 := Lib.hid (K5.out.on hb)
    replace O5 := Lib.hid (O5.out.keep hb)
    replace Ob := Lib.hid (Ob.out.keep hb)
    clear hb
    clear k0 k1 k2 k3
    obtain ⟨k0, k1, k2, k3⟩ := K1.out.c4
    go_wp2_with fail
    refine (PB.out _ _ O1.out).mono ?_
    rintro e w8 ⟨rfl, hb⟩
    replace B0 := Lib.hid (below_on B0.out hb)
    replace Rt := Lib.hid (Rt.out.keep hb)
    replace K1 := Lib.hid (K1.out.on hb)
    replace O1 := Lib.hid (O1.out.keep hb)
    replace K2 := Lib.hid (K2.out.on hb)
    replace O2 := Lib.hid (O2.out.keep hb)
    replace K3 := Lib.hid (K3.out.on hb)
    replace O3 := Lib.hid (O3.out.keep hb)
    replace K5 := Lib.hid (K5.out.on hb)
    replace O5 := Lib.hid (O5.out.keep hb)
    replace Ob := Lib.hid (Ob.out.keep hb)
    clear hb
    clear k0 k1 k2 k3
    obtain ⟨k0, k1, k2, k3⟩ := K1.out.c4
    go_wp2_with fail
    refine (PA.out _ _ O1.out).mono ?_
    rintro e w9 ⟨r1, rfl, ho, hb⟩
    replace B0 := Lib.hid (below_on B0.out hb)
    replace Rt := Lib.hid (Rt.out.keep hb)
    replace K1 := Lib.hid (K1.out.on hb)
    replace O1 := Lib.hid (O1.out.keep hb)
    replace K2 := Lib.hid (K2.out.on hb)
    replace O2 := Lib.hid (O2.out.keep hb)
    replace K3 := Lib.hid (K3.out.on hb)
    replace O3 := Lib.hid (O3.out.keep hb)
    replace K5 := Lib.hid (K5.out.on hb)
    replace O5 := Lib.hid (O5.out.keep hb)
    replace Ob := Lib.hid (Ob.out.keep hb)
    clear hb
    clear k0 k1 k2 k3
    rw [HTN.out] at ho
    obtain ⟨F1, f1, rfl⟩ := (Rd.of_own ho).form
    have Wf := Lib.hid ho
    clear ho
    go_wp2_with fail
    refine (SameForm_yes _ _ m _ _ ys _ (own_cap Wf.out) (own_cap Ob.out.o) (Rd.of_own Wf.out) (Rd.of_own Ob.out.o) (Nat.le_refl _) (by have := HNN.out; omega) Q4.out Q6.out Q5.out).mono ?_
    rintro e w10 ⟨rfl, hb⟩
    replace B0 := Lib.hid (below_on B0.out hb)
    replace Rt := Lib.hid (Rt.out.keep hb)
    replace K1 := Lib.hid (K1.out.on hb)
    replace O1 := Lib.hid (O1.out.keep hb)
    replace K2 := Lib.hid (K2.out.on hb)
    replace O2 := Lib.hid (O2.out.keep hb)
    replace K3 := Lib.hid (K3.out.on hb)
    replace O3 := Lib.hid (O3.out.keep hb)
    replace K5 := Lib.hid (K5.out.on hb)
    replace O5 := Lib.hid (O5.out.keep hb)
    replace Ob := Lib.hid (Ob.out.keep hb)
    replace Wf := Lib.hid (own_below Wf.out hb (Nat.le_refl _))
    clear hb
    go_upto_if 291 with (fail)
    go_step
    go_step
    go_step
    go_step
    repeat (first | exact wp_of_fn (by kernel_rfl) (fun f => trn_a w w10 B0.out gt lt At Ct Dt cat cbt cct t Rt.out f) | go_step)
end Go.Proofs.Ytnlneblipedddaa
