/- Plain laws of FnSwaps, and TransitionMoves on both sides for any transition. Condition: the transition's slices can be read. The law on swaps from its third transition on. Condition: the bytes can be read. The law on swaps from its second transition on. Condition: the bytes can be read. -/
import Derived.Test.YtjcepipgjpaclaaPFnSwaps22
import Derived.Test.YtjcepipgjpaclaaPFnSwaps31
import Derived.Test.YtjcepipgjpaclaaPFnSwaps34
import Derived.Test.YtjcepipgjpaclaaPFnSwaps09
import Derived.Test.YtjcepipgjpaclaaPFnSwaps29
import Derived.Test.YtjcepipgjpaclaaPFnSwaps15
import Derived.Test.YtjcepipgjpaclaaPFnSwaps33
namespace Go.Proofs.Ytjcepipgjpaclaa
open Go.RowKit

theorem in_of {x a b : Int} (h1 : a ≤ x) (h2 : x ≤ b) : inB x a b = true := by simp [inB]; omega
theorem sp_of {t : TrN} {i k : Int} (h : trB t = true) (hi : 0 ≤ i ∧ i < t.n) (hk : 0 ≤ k ∧ k < t.n) : spB t i k = true := by
  have h1 := in_of (x := i) (a := 0) (b := (t.n : Int) - 1) hi.1 (by omega)
  have h2 := in_of (x := k) (a := 0) (b := (t.n : Int) - 1) hk.1 (by omega)
  simp [spB, hpB, h, h1, h2]
theorem sp_is {t : TrN} {i k : Int} (h : spB t i k = true) : spT t i k = swT t i.toNat k.toNat := by simp [spT, h]
theorem sw_back (t : TrN) {i k : Nat} (hi : i < t.ps.length) (hk : k < t.ps.length) : swT (swT t i k) i k = t := by
  have h := sw_twice t.ps i k hi hk
  obtain ⟨n, xs, m, ys, c, p, ps⟩ := t
  simp only [swT] at h ⊢
  rw [h]
theorem sp_back {t : TrN} {i k : Int} (hl : t.ps.length = t.p) (h : spB t i k = true) : spB (spT t i k) i k = true ∧ spT (spT t i k) i k = t := by
  obtain ⟨h1, h2, h3⟩ := sp_yes h
  have hok := tr_ok h1
  have hp := hok.p
  have hg := sw_good h1 hl (i := i.toNat) (k := k.toNat) (by omega) (by omega)
  have hb : spB (swT t i.toNat k.toNat) i k = true := sp_of hg (by show 0 ≤ i ∧ i < t.n; omega) (by show 0 ≤ k ∧ k < t.n; omega)
  rw [sp_is h]
  exact ⟨hb, by rw [sp_is hb]; exact sw_back t (by omega) (by omega)⟩
theorem sp_small {t : TrN} {i k : Int} (h : t.small) : (spT t i k).small := by
  unfold spT
  split
  · exact h
  · exact ⟨by decide, by decide, by decide⟩
theorem bs_good {t : TrN} (hl : t.ps.length = t.p) (h : bsB t = true) : trB t = true ∧ 1 ≤ (bsV t).2.2 ∧ (bsV t).2.2 ≤ 25200000 ∧ (bsV t).1 < (bsV t).2.1 ∧ (bsV t).2.1 < t.n ∧ (bsV t).2.2 = gaT t (bsV t).1 (bsV t).2.1 := by
  cases hg : trB t with
  | false => rw [(bs_no hg).2] at h; cases h
  | true =>
    obtain ⟨h1, h2⟩ := bs_yes hg
    have ho := bsOut_ok hg hl t.n (Nat.le_refl _)
    rw [h1]
    rw [h2] at h
    obtain ⟨h3, h4, h5⟩ := ho
    rcases h5 with h5 | ⟨h5, h6, h7, h8⟩
    · rw [h5] at h; cases h
    · exact ⟨rfl, h5, h4, h6, h7, h8⟩
/-- What both sides say of the moves. -/
def moN (t : TrN) : Nat := if trB t = true then t.n else 0
def moL (t : TrN) : List Int := if trB t = true then mvTo t t.n else []
theorem mo_yes {t : TrN} (h : trB t = true) : moN t = t.n ∧ moL t = mvTo t t.n := by simp [moN, moL, h]
theorem mo_no {t : TrN} (h : trB t = false) : moN t = 0 ∧ moL t = [] := by simp [moN, moL, h]
theorem mo_le {t : TrN} (h : t.small) : moN t ≤ 1048576 := by
  unfold moN
  split
  · exact h.1
  · omega
set_option maxHeartbeats 2000000 in
theorem TransitionMoves_no (v : Value) (B : Nat) (t : TrN) (w : World) (hcp : CapT v) (hv : RdT w B v t) (hB : B ≤ w.heap.size) (hs : t.small) (hg : trB t = false) :
    Calls Try.prog 23 #[v] w fun e w' => e = .returned (.tuple #[.slice none 0 0, .bool false]) ∧ Below w.heap.size w w' := by
  have P := Lib.hid (fun W (hb : Below w.heap.size w W) => IsTransition_any v B t W hcp (hv.below' hb hB) (Nat.le_trans hB hb.size) hs)
  obtain ⟨A, ca, C, cb, D, cc, rfl, -, -, -⟩ := hv.form
  have HG := Lib.hid hg
  have K0 := Lib.hid (Blk.new w 27 #[.slice A t.n ca, .slice C t.m cb, .int .i64 t.c, .slice D t.p cc])
  have HB0 := Lib.hid (below_new (Below.refl w.heap.size w) (.cells #[.slice A t.n ca, .slice C t.m cb, .int .i64 t.c, .slice D t.p cc] 27))
  obtain ⟨a0, a1, a2, a3⟩ := K0.out.c4
  clear hv hg hcp hs
  go_enter Try.func23, Try.ntmps23
  go_wp2_with fail
  refine (P.out _ HB0.out).mono ?_
  rintro e w2 ⟨rfl, hb⟩
  rw [HG.out]
  have HB1 := Lib.hid (below_on HB0.out hb)
  clear hb a0 a1 a2 a3 K0 HB0
  go_wp2_with fail
  go_ret2
  exact ⟨rfl, HB1.out⟩
set_option maxHeartbeats 2000000 in
theorem specTransitionMoves_no (v : Value) (B : Nat) (t : TrN) (w : World) (hcp : CapT v) (hv : RdT w B v t) (hB : B ≤ w.heap.size) (hs : t.small) (hg : trB t = false) :
    Calls Try.prog 24 #[v] w fun e w' => e = .returned (.tuple #[.slice none 0 0, .bool false]) ∧ Below w.heap.size w w' := by
  have P := Lib.hid (fun W (hb : Below w.heap.size w W) => asGood_any v B t W hcp (hv.below' hb hB) (Nat.le_trans hB hb.size) hs)
  obtain ⟨A, ca, C, cb, D, cc, rfl, -, -, -⟩ := hv.form
  have HG := Lib.hid hg
  have K0 := Lib.hid (Blk.new w 27 #[.slice A t.n ca, .slice C t.m cb, .int .i64 t.c, .slice D t.p cc])
  have HB0 := Lib.hid (below_new (Below.refl w.heap.size w) (.cells #[.slice A t.n ca, .slice C t.m cb, .int .i64 t.c, .slice D t.p cc] 27))
  obtain ⟨a0, a1, a2, a3⟩ := K0.out.c4
  clear hv hg hcp hs
  go_enter Try.func24, Try.ntmps24
  go_wp2_with fail
  refine (P.out _ HB0.out).mono ?_
  rintro e w2 ⟨rfl, hb⟩
  rw [HG.out]
  have HB1 := Lib.hid (below_on HB0.out hb)
  clear hb a0 a1 a2 a3 K0 HB0
  go_wp2_with fail
  go_ret2
  exact ⟨rfl, HB1.out⟩
theorem TransitionMoves_all (v : Value) (B : Nat) (t : TrN) (w : World) (hcp : CapT v) (hv : RdT w B v t) (hB : B ≤ w.heap.size) (hs : t.small) :
    Calls Try.prog 23 #[v] w fun e w' => ∃ u, e = .returned (.tuple #[u, .bool (trB t)]) ∧ w'.ownsRow w.heap.size 47 5 u (moN t) (ints (moL t)) ∧ Below w.heap.size w w' := by
  cases hg : trB t with
  | false =>
    obtain ⟨h1, h2⟩ := mo_no hg
    refine (TransitionMoves_no v B t w hcp hv hB hs hg).mono ?_
    rintro e w' ⟨rfl, hb⟩
    rw [h1, h2]
    exact ⟨_, rfl, World.ownsRow_nil _ _ _ _, hb⟩
  | true =>
    obtain ⟨h1, h2⟩ := mo_yes hg
    rw [h1, h2]
    exact TransitionMoves_any v B t w hcp hv hB hs hg
theorem specTransitionMoves_all (v : Value) (B : Nat) (t : TrN) (w : World) (hcp : CapT v) (hv : RdT w B v t) (hB : B ≤ w.heap.size) (hs : t.small) :
    Calls Try.prog 24 #[v] w fun e w' => ∃ u, e = .returned (.tuple #[u, .bool (trB t)]) ∧ w'.ownsRow w.heap.size 47 5 u (moN t) (ints (moL t)) ∧ Below w.heap.size w w' := by
  cases hg : trB t with
  | false =>
    obtain ⟨h1, h2⟩ := mo_no hg
    refine (specTransitionMoves_no v B t w hcp hv hB hs hg).mono ?_
    rintro e w' ⟨rfl, hb⟩
    rw [h1, h2]
    exact ⟨_, rfl, World.ownsRow_nil _ _ _ _, hb⟩
  | true =>
    obtain ⟨h1, h2⟩ := mo_yes hg
    rw [h1, h2]
    exact specTransitionMoves_any v B t w hcp hv hB hs hg
theorem OwnA.keep {w w' : World} {lo : Nat} {v : Value} {t : TrN} (h : OwnA w lo v t) (hb : Below w.heap.size w w') : OwnA w' lo v t := h.below hb (Nat.le_refl _)
theorem OwnA.len {w : World} {lo : Nat} {v : Value} {t : TrN} (h : OwnA w lo v t) : t.ps.length = t.p := by
  obtain ⟨va, vb, vc, e, h1, h2, h3⟩ := h
  have := h3.1
  rw [ints_length] at this
  omega
end Go.Proofs.Ytjcepipgjpaclaa

namespace Go.Proofs.Ytjcepipgjpaclaa
open Go.RowKit

noncomputable def swBody : Code := (Try.f6.body).getD .skip
set_option maxRecDepth 100000 in
set_option maxHeartbeats 4000000 in
theorem sw_a (w W : World) (hB : Below w.heap.size w W) (A1 : Option Addr) (n1 c1 : Nat) (h1 : RdB W W.heap.size A1 n1) (hm1 : n1 ≤ 9223372036854775807) (f : Nat → Value) :
    Code.wp Try.prog (tailOf 19 swBody) (bodyPost Try.prog Try.f6 (fun e w' => e = .returned (.bool true) ∧ Below w.heap.size w w')) ⟨#[f 0, .slice A1 n1 c1, f 2, f 3, f 4, f 5, f 6, f 7, f 8, f 9, f 10, f 11, f 12, f 13, f 14, f 15, f 16, f 17, f 18, f 19, f 20, f 21, f 22, f 23, f 24, f 25, f 26, f 27, f 28, f 29, f 30, f 31, f 32, f 33, f 34, f 35, f 36, f 37, f 38, f 39, f 40, f 41, f 42, f 43, f 44, f 45, f 46, f 47, f 48, f 49, f 50, f 51, f 52, f 53, f 54, f 55, f 56, f 57, f 58, f 59, f 60, f 61, f 62, f 63, f 64, f 65, f 66, f 67, f 68, f 69, f 70, f 71, f 72, f 73, f 74, f 75, f 76, f 77, f 78, f 79, f 80, f 81, f 82, f 83, f 84, f 85, f 86, f 87, f 88, f 89, f 90, f 91, f 92, f 93, f 94, f 95, f 96, f 97, f 98, f 99, f 100, f 101, f 102, f 103, f 104, f 105, f 106, f 107, f 108, f 109, f 110, f 111, f 112, f 113, f 114, f 115, f 116, f 117, f 118, f 119, f 120, f 121, f 122, f 123, f 124, f 125, f 126, f 127, f 128, f 129, f 130, f 131, f 132, f 133, f 134, f 135, f 136, f 137, f 138, f 139, f 140, f 141, f 142, f 143, f 144, f 145, f 146, f 147, f 148, f 149, f 150, f 151, f 152, f 153, f 154, f 155, f 156, f 157, f 158, f 159, f 160, f 161, f 162, f 163, f 164, f 165, f 166, f 167, f 168, f 169, f 170, f 171, f 172, f 173, f 174, f 175, f 176, f 177, f 178, f 179, f 180, f 181, f 182, f 183, f 184, f 185, f 186, f 187, f 188, f 189, f 190, f 191, f 192, f 193, f 194, f 195, f 196, f 197, f 198, f 199, f 200, f 201, f 202, f 203, f 204, f 205, f 206, f 207, f 208, f 209, f 210, f 211, f 212, f 213, f 214, f 215, f 216, f 217, f 218, f 219, f 220, f 221, f 222, f 223, f 224, f 225, f 226, f 227, f 228, f 229, f 230, f 231, f 232, f 233, f 234, f 235, f 236, f 237, f 238, f 239, f 240, f 241, f 242, f 243, f 244, f 245, f 246, f 247, f 248, f 249, f 250, f 251, f 252, f 253, f 254, f 255, f 256, f 257, f 258, f 259, f 260, f 261, f 262, f 263, f 264, f 265, f 266, f 267, f 268, f 269, f 270, f 271, f 272, f 273, f 274, f 275, f 276, f 277, f 278, f 279, f 280, f 281, f 282, f 283, f 284, f 285, f 286, f 287, f 288, f 289, f 290, f 291, f 292, f 293, f 294, f 295, f 296, f 297, f 298, f 299, f 300, f 301, f 302, f 303, f 304, f 305, f 306, f 307, f 308, f 309, f 310, f 311, f 312, f 313, f 314, f 315, f 316, f 317, f 318, f 319, f 320, f 321, f 322, f 323, f 324, f 325, f 326, f 327, f 328, f 329, f 330, f 331, f 332, f 333, f 334, f 335, f 336, f 337, f 338, f 339, f 340, f 341, f 342, f 343, f 344, f 345, f 346, f 347, f 348, f 349, f 350, f 351, f 352, f 353, f 354, f 355, f 356, f 357, f 358, f 359, f 360, f 361, f 362], []⟩ W := by
  conv => arg 2; whnf
  have H1 := Lib.hid h1
  have B0 := Lib.hid hB
  clear h1 hB
  go_wp2_with fail
  refine (DrawSwapPlaces_any A1 n1 c1 _ H1.out hm1).mono ?_
  rintro e w1 ⟨r, t, a, b, rfl, oa, hsz, -, hb⟩
  replace B0 := Lib.hid (below_on B0.out hb)
  clear hb
  have ST := Lib.hid (show t.small from ⟨by omega, by omega, by omega⟩)
  have hback := sp_back (t := t) (i := a) (k := b) oa.len
  have hsm := sp_small (t := t) (i := a) (k := b) ST.out
  clear hsz
  obtain ⟨q, gq⟩ : ∃ q9, spT t a b = q9 := ⟨_, rfl⟩
  obtain ⟨o, go⟩ : ∃ q9, spB t a b = q9 := ⟨_, rfl⟩
  rw [gq] at hsm hback
  rw [go] at hback
  have SQ := Lib.hid hsm
  have HBK := Lib.hid hback
  clear hsm hback
  obtain ⟨At, cat, Ct, cbt, Dt, cct, rfl, -, -, -⟩ := oa.form
  have Ot := Lib.hid oa
  clear oa
  have Kt := Lib.hid (Blk.new w1 27 #[.slice At t.n cat, .slice Ct t.m cbt, .int .i64 t.c, .slice Dt t.p cct])
  replace B0 := Lib.hid (below_new B0.out (.cells #[.slice At t.n cat, .slice Ct t.m cbt, .int .i64 t.c, .slice Dt t.p cct] 27))
  replace Ot := Lib.hid (Ot.out.keep (below_new (Below.refl _ _) (.cells #[.slice At t.n cat, .slice Ct t.m cbt, .int .i64 t.c, .slice Dt t.p cct] 27)))
  have P := fun (lo : Nat) (W : World) h => SwapPlaces_any (.agg #[.slice At t.n cat, .slice Ct t.m cbt, .int .i64 t.c, .slice Dt t.p cct]) lo t a b W h ST.out
  rw [gq, go] at P
  replace P := Lib.hid P
  obtain ⟨k0, k1, k2, k3⟩ := Kt.out.c4
  go_wp2_with fail
  refine (P.out _ _ Ot.out).mono ?_
  rintro e w2 ⟨r1, rfl, oa, hb⟩
  replace B0 := Lib.hid (below_on B0.out hb)
  replace Ot := Lib.hid (Ot.out.keep hb)
  replace Kt := Lib.hid (Kt.out.on hb)
  clear hb
  clear k0 k1 k2 k3
  clear P
  obtain ⟨Ax, cax, Cx, cbx, Dx, ccx, rfl, -, -, -⟩ := oa.form
  have Ox := Lib.hid oa
  clear oa
  have Kx := Lib.hid (Blk.new w2 27 #[.slice Ax q.n cax, .slice Cx q.m cbx, .int .i64 q.c, .slice Dx q.p ccx])
  replace B0 := Lib.hid (below_new B0.out (.cells #[.slice Ax q.n cax, .slice Cx q.m cbx, .int .i64 q.c, .slice Dx q.p ccx] 27))
  replace Ot := Lib.hid (Ot.out.keep (below_new (Below.refl _ _) (.cells #[.slice Ax q.n cax, .slice Cx q.m cbx, .int .i64 q.c, .slice Dx q.p ccx] 27)))
  replace Kt := Lib.hid (Kt.out.alloc (.cells #[.slice Ax q.n cax, .slice Cx q.m cbx, .int .i64 q.c, .slice Dx q.p ccx] 27))
  replace Ox := Lib.hid (Ox.out.keep (below_new (Below.refl _ _) (.cells #[.slice Ax q.n cax, .slice Cx q.m cbx, .int .i64 q.c, .slice Dx q.p ccx] 27)))
  have P := fun (lo : Nat) (W : World) h => specSwapPlaces_any (.agg #[.slice At t.n cat, .slice Ct t.m cbt, .int .i64 t.c, .slice Dt t.p cct]) lo t a b W h ST.out
  rw [gq, go] at P
  replace P := Lib.hid P
  obtain ⟨k0, k1, k2, k3⟩ := Kt.out.c4
  go_wp2_with fail
  refine (P.out _ _ Ot.out).mono ?_
  rintro e w3 ⟨r2, rfl, oa, hb⟩
  replace B0 := Lib.hid (below_on B0.out hb)
  replace Ot := Lib.hid (Ot.out.keep hb)
  replace Kt := Lib.hid (Kt.out.on hb)
  replace Ox := Lib.hid (Ox.out.keep hb)
  replace Kx := Lib.hid (Kx.out.on hb)
  clear hb
  clear k0 k1 k2 k3
  clear P
  obtain ⟨Ay, cay, Cy, cby, Dy, ccy, rfl, -, -, -⟩ := oa.form
  have Oy := Lib.hid oa
  clear oa
  have Ky := Lib.hid (Blk.new w3 27 #[.slice Ay q.n cay, .slice Cy q.m cby, .int .i64 q.c, .slice Dy q.p ccy])
  replace B0 := Lib.hid (below_new B0.out (.cells #[.slice Ay q.n cay, .slice Cy q.m cby, .int .i64 q.c, .slice Dy q.p ccy] 27))
  replace Ot := Lib.hid (Ot.out.keep (below_new (Below.refl _ _) (.cells #[.slice Ay q.n cay, .slice Cy q.m cby, .int .i64 q.c, .slice Dy q.p ccy] 27)))
  replace Kt := Lib.hid (Kt.out.alloc (.cells #[.slice Ay q.n cay, .slice Cy q.m cby, .int .i64 q.c, .slice Dy q.p ccy] 27))
  replace Ox := Lib.hid (Ox.out.keep (below_new (Below.refl _ _) (.cells #[.slice Ay q.n cay, .slice Cy q.m cby, .int .i64 q.c, .slice Dy q.p ccy] 27)))
  replace Kx := Lib.hid (Kx.out.alloc (.cells #[.slice Ay q.n cay, .slice Cy q.m cby, .int .i64 q.c, .slice Dy q.p ccy] 27))
  replace Oy := Lib.hid (Oy.out.keep (below_new (Below.refl _ _) (.cells #[.slice Ay q.n cay, .slice Cy q.m cby, .int .i64 q.c, .slice Dy q.p ccy] 27)))
  clear gq go
  have no : (o != o) = false := by simp
  obtain ⟨x0, x1, x2, x3⟩ := Kx.out.c4
  obtain ⟨y0, y1, y2, y3⟩ := Ky.out.c4
  go_wp2_with fail
  refine (pSameTransition_same _ _ _ q _ Ox.out.rd Oy.out.rd (Nat.le_refl _) SQ.out).mono ?_
  rintro e w4 ⟨rfl, hb⟩
  replace B0 := Lib.hid (below_on B0.out hb)
  replace Ot := Lib.hid (Ot.out.keep hb)
  replace Kt := Lib.hid (Kt.out.on hb)
  replace Ox := Lib.hid (Ox.out.keep hb)
  replace Kx := Lib.hid (Kx.out.on hb)
  replace Oy := Lib.hid (Oy.out.keep hb)
  replace Ky := Lib.hid (Ky.out.on hb)
  clear hb
  clear x0 x1 x2 x3 y0 y1 y2 y3
  cases o with
  | false =>
    go_wp2_with fail
    go_ret
    exact ⟨rfl, B0.out⟩
  | true =>
    obtain ⟨e1, e2⟩ := HBK.out rfl
    have P := fun (lo : Nat) (W : World) h => SwapPlaces_any (.agg #[.slice Ax q.n cax, .slice Cx q.m cbx, .int .i64 q.c, .slice Dx q.p ccx]) lo q a b W h SQ.out
    rw [e1, e2] at P
    replace P := Lib.hid P
    clear e1 e2
    obtain ⟨x0, x1, x2, x3⟩ := Kx.out.c4
    go_wp2_with fail
    refine (P.out _ _ Ox.out).mono ?_
    rintro e w5 ⟨r3, rfl, oa, hb⟩
    replace B0 := Lib.hid (below_on B0.out hb)
    replace Ot := Lib.hid (Ot.out.keep hb)
    replace Kt := Lib.hid (Kt.out.on hb)
    replace Ox := Lib.hid (Ox.out.keep hb)
    replace Kx := Lib.hid (Kx.out.on hb)
    replace Oy := Lib.hid (Oy.out.keep hb)
    replace Ky := Lib.hid (Ky.out.on hb)
    clear hb
    clear x0 x1 x2 x3
    clear P
    obtain ⟨Az, caz, Cz, cbz, Dz, ccz, rfl, -, -, -⟩ := oa.form
    have Oz := Lib.hid oa
    clear oa
    have Kz := Lib.hid (Blk.new w5 27 #[.slice Az t.n caz, .slice Cz t.m cbz, .int .i64 t.c, .slice Dz t.p ccz])
    replace B0 := Lib.hid (below_new B0.out (.cells #[.slice Az t.n caz, .slice Cz t.m cbz, .int .i64 t.c, .slice Dz t.p ccz] 27))
    replace Ot := Lib.hid (Ot.out.keep (below_new (Below.refl _ _) (.cells #[.slice Az t.n caz, .slice Cz t.m cbz, .int .i64 t.c, .slice Dz t.p ccz] 27)))
    replace Kt := Lib.hid (Kt.out.alloc (.cells #[.slice Az t.n caz, .slice Cz t.m cbz, .int .i64 t.c, .slice Dz t.p ccz] 27))
    replace Ox := Lib.hid (Ox.out.keep (below_new (Below.refl _ _) (.cells #[.slice Az t.n caz, .slice Cz t.m cbz, .int .i64 t.c, .slice Dz t.p ccz] 27)))
    replace Kx := Lib.hid (Kx.out.alloc (.cells #[.slice Az t.n caz, .slice Cz t.m cbz, .int .i64 t.c, .slice Dz t.p ccz] 27))
    replace Oy := Lib.hid (Oy.out.keep (below_new (Below.refl _ _) (.cells #[.slice Az t.n caz, .slice Cz t.m cbz, .int .i64 t.c, .slice Dz t.p ccz] 27)))
    replace Ky := Lib.hid (Ky.out.alloc (.cells #[.slice Az t.n caz, .slice Cz t.m cbz, .int .i64 t.c, .slice Dz t.p ccz] 27))
    replace Oz := Lib.hid (Oz.out.keep (below_new (Below.refl _ _) (.cells #[.slice Az t.n caz, .slice Cz t.m cbz, .int .i64 t.c, .slice Dz t.p ccz] 27)))
    obtain ⟨k0, k1, k2, k3⟩ := Kt.out.c4
    obtain ⟨z0, z1, z2, z3⟩ := Kz.out.c4
    go_wp2_with fail
    refine (pSameTransition_same _ _ _ t _ Oz.out.rd Ot.out.rd (Nat.le_refl _) ST.out).mono ?_
    rintro e w6 ⟨rfl, hb⟩
    replace B0 := Lib.hid (below_on B0.out hb)
    replace Ot := Lib.hid (Ot.out.keep hb)
    replace Kt := Lib.hid (Kt.out.on hb)
    replace Ox := Lib.hid (Ox.out.keep hb)
    replace Kx := Lib.hid (Kx.out.on hb)
    replace Oy := Lib.hid (Oy.out.keep hb)
    replace Ky := Lib.hid (Ky.out.on hb)
    replace Oz := Lib.hid (Oz.out.keep hb)
    replace Kz := Lib.hid (Kz.out.on hb)
    clear hb
    go_wp2_with fail
    go_ret
    exact ⟨rfl, B0.out⟩
end Go.Proofs.Ytjcepipgjpaclaa

namespace Go.Proofs.Ytjcepipgjpaclaa
open Go.RowKit

theorem mul_wd {x y : Int} {a b : Int} (h1 : 0 ≤ x) (h2 : x ≤ a) (h3 : 0 ≤ y) (h4 : y ≤ b) : 0 ≤ x * y ∧ x * y ≤ a * b := ⟨Int.mul_nonneg h1 h3, Int.mul_le_mul h2 h4 h3 (by omega)⟩
theorem fi_yes {t : TrN} {L : Int} (h : fiB t L = true) : trB t = true ∧ 1 ≤ L ∧ L ≤ 24 := by
  unfold fiB at h
  rw [Bool.and_eq_true] at h
  have := inB_yes h.2
  exact ⟨h.1, by omega, by omega⟩
theorem fi_wd {t : TrN} {L : Int} (h : fiB t L = true) : decide ((wdT t).1 ≤ L * L * (wdT t).2) = fiV t L := by
  rw [wd_fits (fi_yes h).1, fiV, h, Bool.true_and]; rfl
theorem wd_in {t : TrN} (h : trB t = true) : (0 ≤ (wdT t).1 ∧ (wdT t).1 ≤ 2100000) ∧ 1 ≤ (wdT t).2 ∧ (wdT t).2 ≤ 4096 := by
  have hok := tr_ok h
  have hm := mSq_in hok (faT_lt (t := t) hok.n0)
  have h0 := hok.c0
  have h1 := hok.c1
  have hc := Int.mul_pos (show 0 < t.c by omega) (show 0 < t.c by omega)
  have hc2 := (mul_wd (x := t.c) (y := t.c) (a := 64) (b := 64) (by omega) (by omega) (by omega) (by omega)).2
  have hb := tm_bounds hm.1 hc
  rw [wd_yes h]
  simp only
  omega
theorem sq24 {L : Int} (h : 1 ≤ L ∧ L ≤ 24) : 0 ≤ L * L ∧ L * L ≤ 576 := mul_wd (a := 24) (b := 24) (by omega) (by omega) (by omega) (by omega)
set_option maxRecDepth 100000 in
set_option maxHeartbeats 4000000 in
theorem sw_b (w W : World) (hB : Below w.heap.size w W) (A1 : Option Addr) (n1 c1 : Nat) (h1 : RdB W W.heap.size A1 n1) (hm1 : n1 ≤ 9223372036854775807) (f : Nat → Value) :
    Code.wp Try.prog (tailOf 14 swBody) (bodyPost Try.prog Try.f6 (fun e w' => e = .returned (.bool true) ∧ Below w.heap.size w w')) ⟨#[f 0, .slice A1 n1 c1, f 2, f 3, f 4, f 5, f 6, f 7, f 8, f 9, f 10, f 11, f 12, f 13, f 14, f 15, f 16, f 17, f 18, f 19, f 20, f 21, f 22, f 23, f 24, f 25, f 26, f 27, f 28, f 29, f 30, f 31, f 32, f 33, f 34, f 35, f 36, f 37, f 38, f 39, f 40, f 41, f 42, f 43, f 44, f 45, f 46, f 47, f 48, f 49, f 50, f 51, f 52, f 53, f 54, f 55, f 56, f 57, f 58, f 59, f 60, f 61, f 62, f 63, f 64, f 65, f 66, f 67, f 68, f 69, f 70, f 71, f 72, f 73, f 74, f 75, f 76, f 77, f 78, f 79, f 80, f 81, f 82, f 83, f 84, f 85, f 86, f 87, f 88, f 89, f 90, f 91, f 92, f 93, f 94, f 95, f 96, f 97, f 98, f 99, f 100, f 101, f 102, f 103, f 104, f 105, f 106, f 107, f 108, f 109, f 110, f 111, f 112, f 113, f 114, f 115, f 116, f 117, f 118, f 119, f 120, f 121, f 122, f 123, f 124, f 125, f 126, f 127, f 128, f 129, f 130, f 131, f 132, f 133, f 134, f 135, f 136, f 137, f 138, f 139, f 140, f 141, f 142, f 143, f 144, f 145, f 146, f 147, f 148, f 149, f 150, f 151, f 152, f 153, f 154, f 155, f 156, f 157, f 158, f 159, f 160, f 161, f 162, f 163, f 164, f 165, f 166, f 167, f 168, f 169, f 170, f 171, f 172, f 173, f 174, f 175, f 176, f 177, f 178, f 179, f 180, f 181, f 182, f 183, f 184, f 185, f 186, f 187, f 188, f 189, f 190, f 191, f 192, f 193, f 194, f 195, f 196, f 197, f 198, f 199, f 200, f 201, f 202, f 203, f 204, f 205, f 206, f 207, f 208, f 209, f 210, f 211, f 212, f 213, f 214, f 215, f 216, f 217, f 218, f 219, f 220, f 221, f 222, f 223, f 224, f 225, f 226, f 227, f 228, f 229, f 230, f 231, f 232, f 233, f 234, f 235, f 236, f 237, f 238, f 239, f 240, f 241, f 242, f 243, f 244, f 245, f 246, f 247, f 248, f 249, f 250, f 251, f 252, f 253, f 254, f 255, f 256, f 257, f 258, f 259, f 260, f 261, f 262, f 263, f 264, f 265, f 266, f 267, f 268, f 269, f 270, f 271, f 272, f 273, f 274, f 275, f 276, f 277, f 278, f 279, f 280, f 281, f 282, f 283, f 284, f 285, f 286, f 287, f 288, f 289, f 290, f 291, f 292, f 293, f 294, f 295, f 296, f 297, f 298, f 299, f 300, f 301, f 302, f 303, f 304, f 305, f 306, f 307, f 308, f 309, f 310, f 311, f 312, f 313, f 314, f 315, f 316, f 317, f 318, f 319, f 320, f 321, f 322, f 323, f 324, f 325, f 326, f 327, f 328, f 329, f 330, f 331, f 332, f 333, f 334, f 335, f 336, f 337, f 338, f 339, f 340, f 341, f 342, f 343, f 344, f 345, f 346, f 347, f 348, f 349, f 350, f 351, f 352, f 353, f 354, f 355, f 356, f 357, f 358, f 359, f 360, f 361, f 362], []⟩ W := by
  conv => arg 2; whnf
  have H1 := Lib.hid h1
  have B0 := Lib.hid hB
  clear h1 hB
  have BW := Lib.hid (Below.refl W.heap.size W)
  go_wp2_with fail
  refine (DrawFitsStep_any A1 n1 c1 _ H1.out hm1).mono ?_
  rintro e w1 ⟨r, t, L, rfl, oa, hsz, hL, hb⟩
  replace B0 := Lib.hid (below_on B0.out hb)
  replace BW := Lib.hid (below_on BW.out hb)
  clear hb
  have ST := Lib.hid (show t.small from ⟨by omega, by omega, by omega⟩)
  clear hsz hL
  obtain ⟨At, cat, Ct, cbt, Dt, cct, rfl, -, -, -⟩ := oa.form
  have Ot := Lib.hid oa
  clear oa
  have Kt := Lib.hid (Blk.new w1 27 #[.slice At t.n cat, .slice Ct t.m cbt, .int .i64 t.c, .slice Dt t.p cct])
  replace B0 := Lib.hid (below_new B0.out (.cells #[.slice At t.n cat, .slice Ct t.m cbt, .int .i64 t.c, .slice Dt t.p cct] 27))
  replace BW := Lib.hid (below_new BW.out (.cells #[.slice At t.n cat, .slice Ct t.m cbt, .int .i64 t.c, .slice Dt t.p cct] 27))
  replace Ot := Lib.hid (Ot.out.keep (below_new (Below.refl _ _) (.cells #[.slice At t.n cat, .slice Ct t.m cbt, .int .i64 t.c, .slice Dt t.p cct] 27)))
  obtain ⟨o, go⟩ : ∃ q9, fiB t L = q9 := ⟨_, rfl⟩
  obtain ⟨v, gv⟩ : ∃ q9, fiV t L = q9 := ⟨_, rfl⟩
  have P := fun (W : World) (lo : Nat) (h : OwnA W lo (.agg #[.slice At t.n cat, .slice Ct t.m cbt, .int .i64 t.c, .slice Dt t.p cct]) t) => FitsStep_any (.agg #[.slice At t.n cat, .slice Ct t.m cbt, .int .i64 t.c, .slice Dt t.p cct]) W.heap.size t L W h.cap h.rd (Nat.le_refl _) ST.out
  rw [go, gv] at P
  replace P := Lib.hid P
  obtain ⟨k0, k1, k2, k3⟩ := Kt.out.c4
  go_wp2_with fail
  refine (P.out _ _ Ot.out).mono ?_
  rintro e w2 ⟨rfl, hb⟩
  replace B0 := Lib.hid (below_on B0.out hb)
  replace BW := Lib.hid (below_on BW.out hb)
  replace Ot := Lib.hid (Ot.out.keep hb)
  replace Kt := Lib.hid (Kt.out.on hb)
  clear hb
  clear k0 k1 k2 k3
  clear P
  have P := fun (W : World) (lo : Nat) (h : OwnA W lo (.agg #[.slice At t.n cat, .slice Ct t.m cbt, .int .i64 t.c, .slice Dt t.p cct]) t) => specFitsStep_any (.agg #[.slice At t.n cat, .slice Ct t.m cbt, .int .i64 t.c, .slice Dt t.p cct]) W.heap.size t L W h.cap h.rd (Nat.le_refl _) ST.out
  rw [go, gv] at P
  replace P := Lib.hid P
  obtain ⟨k0, k1, k2, k3⟩ := Kt.out.c4
  go_wp2_with fail
  refine (P.out _ _ Ot.out).mono ?_
  rintro e w3 ⟨rfl, hb⟩
  replace B0 := Lib.hid (below_on B0.out hb)
  replace BW := Lib.hid (below_on BW.out hb)
  replace Ot := Lib.hid (Ot.out.keep hb)
  replace Kt := Lib.hid (Kt.out.on hb)
  clear hb
  clear k0 k1 k2 k3
  clear P
  have no : (o != o) = false := by simp
  have nv : (v != v) = false := by simp
  cases o with
  | false =>
    clear gv go
    go_upto_if 300 with (fail)
    go_step
    go_step
    go_step
    go_step
    exact wp_of_fn (by kernel_rfl) (fun f => sw_a w w3 B0.out A1 n1 c1 (H1.out.kept BW.out) hm1 f)
  | true =>
    obtain ⟨htr, hL⟩ := fi_yes go
    have hv := fi_wd go
    have hbd := wd_in htr
    have hss := sq24 hL
    rw [gv] at hv
    have P := fun (W : World) (lo : Nat) (h : OwnA W lo (.agg #[.slice At t.n cat, .slice Ct t.m cbt, .int .i64 t.c, .slice Dt t.p cct]) t) => WidestStep_any (.agg #[.slice At t.n cat, .slice Ct t.m cbt, .int .i64 t.c, .slice Dt t.p cct]) W.heap.size t W h.cap h.rd (Nat.le_refl _) ST.out
    rw [htr] at P
    obtain ⟨x, gx⟩ : ∃ q9, (wdT t).1 = q9 := ⟨_, rfl⟩
    obtain ⟨y, gy⟩ : ∃ q9, (wdT t).2 = q9 := ⟨_, rfl⟩
    rw [gx, gy] at P hv hbd
    replace P := Lib.hid P
    have m1 := mul_wd (x := L * L) (y := y) (a := 576) (b := 4096) (by omega) (by omega) (by omega) (by omega)
    have i1 := IntWalk.i64_in (L * L) (by omega)
    have i2 := IntWalk.i64_in (L * L * y) (by omega)
    clear gx gy gv go htr m1 hss hbd hL
    obtain ⟨k0, k1, k2, k3⟩ := Kt.out.c4
    go_wp2_with fail
    refine (P.out _ _ Ot.out).mono ?_
    rintro e w4 ⟨rfl, hb⟩
    replace B0 := Lib.hid (below_on B0.out hb)
    replace BW := Lib.hid (below_on BW.out hb)
    replace Ot := Lib.hid (Ot.out.keep hb)
    replace Kt := Lib.hid (Kt.out.on hb)
    clear hb
    clear k0 k1 k2 k3
    clear P
    go_upto_if 319 with (fail)
    go_step
    go_step
    go_step
    go_step
    exact wp_of_fn (by kernel_rfl) (fun f => sw_a w w4 B0.out A1 n1 c1 (H1.out.kept BW.out) hm1 f)
end Go.Proofs.Ytjcepipgjpaclaa
