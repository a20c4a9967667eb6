/- The law on waves from its last test on. Conditions: what both sides have said of the room. -/
import Derived.Test.YtjcepipgjpaclaaGreatPFnWaves09
import Derived.Test.YtjcepipgjpaclaaGreatPFnWaves23
namespace Go.Proofs.YtjcepipgjpaclaaGreat
open Go.RowKit

/-- A transition in a cell of the law's. -/
structure WvR (W : World) (gt : Nat) (A C D : Option Addr) (ca cb cc : Nat) (t : TrN) : Prop where
  k : Blk W gt 27 #[.slice A t.n ca, .slice C t.m cb, .int .i64 t.c, .slice D t.p cc]
  r : RdT W W.heap.size (.agg #[.slice A t.n ca, .slice C t.m cb, .int .i64 t.c, .slice D t.p cc]) t
  c : CapT (.agg #[.slice A t.n ca, .slice C t.m cb, .int .i64 t.c, .slice D t.p cc])
  s : t.small
theorem WvR.keep {W W' : World} {gt : Nat} {A C D : Option Addr} {ca cb cc : Nat} {t : TrN} (h : WvR W gt A C D ca cb cc t) (hb : Below W.heap.size W W') : WvR W' gt A C D ca cb cc t :=
  ⟨h.k.on hb, (h.r.below hb).more hb.size, h.c, h.s⟩
noncomputable def wvBody : Code := (Tryz.f3.body).getD .skip
set_option maxRecDepth 100000 in
set_option maxHeartbeats 4000000 in
theorem wv_a (w W : World) (hB : Below w.heap.size w W) (gt : Nat) (A C D : Option Addr) (ca cb cc : Nat) (t : TrN) (Ah : Option Addr) (ch : Nat) (ob : Bool) (hR : WvR W gt A C D ca cb cc t) (hob : roB t = ob) (f : Nat → Value) :
    Code.wp Tryz.prog (tailOf 19 wvBody) (bodyPost Tryz.prog Tryz.f3 (fun e w' => e = .returned (.bool true) ∧ Below w.heap.size w w')) ⟨#[f 0, f 1, f 2, f 3, f 4, f 5, f 6, f 7, f 8, f 9, f 10, f 11, f 12, f 13, f 14, f 15, f 16, f 17, f 18, f 19, f 20, f 21, f 22, f 23, f 24, f 25, f 26, f 27, .pointer (some ⟨gt, 0, none⟩), f 29, f 30, .bool ob, .int .i64 (roA t), .int .i64 (roC t), f 34, f 35, f 36, .slice Ah (clN t) ch, f 38, f 39, f 40, f 41, f 42, f 43, f 44, f 45, f 46, f 47, f 48, f 49, f 50, f 51, f 52, f 53, f 54, f 55, f 56, f 57, f 58, f 59, f 60, f 61, f 62, f 63, f 64, f 65, f 66, f 67, f 68, f 69, f 70, f 71, f 72, f 73, f 74, f 75, f 76, f 77, f 78, f 79, f 80, f 81, f 82, f 83, f 84, f 85, f 86, f 87, f 88, f 89, f 90, f 91, f 92, f 93, f 94, f 95, f 96, f 97, f 98, f 99, f 100, f 101, f 102, f 103, f 104, f 105, f 106, f 107, f 108, f 109, f 110, f 111, f 112, f 113, f 114, f 115, f 116, f 117, f 118, f 119, f 120, f 121, f 122, f 123, f 124, f 125, f 126, f 127, f 128, f 129, f 130, f 131, f 132, f 133, f 134, f 135, f 136, f 137, f 138, f 139, f 140, f 141, f 142, f 143, f 144, f 145, f 146, f 147, f 148, f 149, f 150, f 151, f 152, f 153, f 154, f 155, f 156, f 157, f 158, f 159, f 160, f 161, f 162, f 163, f 164, f 165, f 166, f 167, f 168, f 169, f 170, f 171, f 172, f 173, f 174, f 175, f 176, f 177, f 178, f 179, f 180, f 181, f 182, f 183, f 184, f 185, f 186, f 187, f 188, f 189, f 190, f 191, f 192, f 193, f 194, f 195, f 196, f 197, f 198, f 199, f 200, f 201, f 202, f 203, f 204, f 205, f 206, f 207, f 208, f 209, f 210, f 211, f 212, f 213, f 214, f 215, f 216, f 217, f 218, f 219, f 220, f 221, f 222, f 223, f 224, f 225, f 226, f 227, f 228, f 229, f 230, f 231, f 232, f 233, f 234, f 235, f 236, f 237, f 238, f 239, f 240, f 241, f 242, f 243, f 244, f 245, f 246, f 247, f 248, f 249, f 250, f 251, f 252, f 253, f 254, f 255, f 256, f 257, f 258, f 259, f 260, f 261, f 262, f 263, f 264, f 265, f 266, f 267, f 268, f 269, f 270, f 271, f 272, f 273, f 274, f 275, f 276, f 277, f 278, f 279, f 280, f 281, f 282, f 283, f 284, f 285, f 286, f 287, f 288, f 289, f 290, f 291, f 292, f 293, f 294, f 295, f 296, f 297, f 298, f 299, f 300, f 301, f 302, f 303, f 304, f 305, f 306, f 307, f 308, f 309, f 310, f 311, f 312, f 313, f 314, f 315, f 316, f 317, f 318, f 319, f 320, f 321, f 322, f 323, f 324, f 325, f 326, f 327, f 328, f 329, f 330, f 331, f 332, f 333, f 334, f 335, f 336, f 337, f 338, f 339, f 340, f 341, f 342, f 343, f 344, f 345, f 346, f 347, f 348, f 349, f 350, f 351, f 352, f 353, f 354, f 355, f 356, f 357, f 358, f 359, f 360, f 361], []⟩ W := by
  conv => arg 2; whnf
  have HR := Lib.hid hR
  have B0 := Lib.hid hB
  clear hR hB
  cases ob with
  | false =>
    clear hob
    go_wp2_with fail
    go_ret
    exact ⟨rfl, B0.out⟩
  | true =>
    obtain ⟨htr, hn2⟩ := ro_in hob
    have P1 := fun W' (hb : Below W.heap.size W W') => GreatestLeast_any _ _ t W' HR.out.c (HR.out.r.below hb) hb.size HR.out.s
    have P2 := fun W' (hb : Below W.heap.size W W') => specGreatestLeast_any _ _ t W' HR.out.c (HR.out.r.below hb) hb.size HR.out.s
    rw [show glB t = true from htr] at P1 P2
    obtain ⟨r0, r1, -, -⟩ := ro_least hob
    obtain ⟨s0, s1⟩ := ro_bound hob
    obtain ⟨g0, g1⟩ := gl_range htr
    have hh := ro_hits hob
    obtain ⟨q0, q1⟩ := ro_great hob
    have hcl : (clL t).length = clN t := rfl
    rw [hcl] at hh
    obtain ⟨N, eN⟩ : ∃ q, clN t = q := ⟨_, rfl⟩
    obtain ⟨x, ex⟩ : ∃ q, roA t = q := ⟨_, rfl⟩
    obtain ⟨y, ey⟩ : ∃ q, roC t = q := ⟨_, rfl⟩
    obtain ⟨g, eg⟩ : ∃ q, glV t = q := ⟨_, rfl⟩
    rw [ex] at r0 s0 hh q0 q1 ⊢
    rw [ey] at r1 s1 q0 q1 ⊢
    rw [eN] at hh ⊢
    rw [eg] at g0 g1 q0 q1 P1 P2
    replace P1 := Lib.hid P1
    replace P2 := Lib.hid P2
    obtain ⟨bz, d1, d2⟩ : ∃ b, (x == 0) = b ∧ decide ((0 : Int) < (N : Int)) = b := by
      by_cases hx : x = 0
      · exact ⟨true, by simp [hx], by have := hh.1 hx; simp; omega⟩
      · exact ⟨false, by simp [hx], by simp only [decide_eq_false_iff_not]; intro h; exact hx (hh.2 (by omega))⟩
    have d2' : decide (0 < N) = bz := by rw [← d2]; congr 1; simp
    have m1 := mul_wide (x := g) (y := g) (a := 80) (b := 80) (by omega) (by omega) (by omega) (by omega)
    have m2 := mul_wide (x := g * g) (y := y) (a := 6400) (b := 13107200) (by omega) (by omega) (by omega) (by omega)
    have m3 := mul_wide (x := g + 1) (y := g + 1) (a := 81) (b := 81) (by omega) (by omega) (by omega) (by omega)
    have m4 := mul_wide (x := (g + 1) * (g + 1)) (y := y) (a := 6561) (b := 13107200) (by omega) (by omega) (by omega) (by omega)
    have i1 := IntWalk.i64_in (g * g) (by omega)
    have i2 := IntWalk.i64_in (g * g * y) (by omega)
    have i3 := IntWalk.i64_in (g + 1) (by omega)
    have i4 := IntWalk.i64_in ((g + 1) * (g + 1)) (by omega)
    have i5 := IntWalk.i64_in ((g + 1) * (g + 1) * y) (by omega)
    have d3 : decide (y < 1) = false := by simp; omega
    have d4 : decide (x < g * g * y) = false := by simp; omega
    have ng : (g != g) = false := by simp
    have nb : (bz != bz) = false := by simp
    have Q1 := Lib.hid q1
    clear hob htr hn2 hh q0 q1 hcl eN ex ey eg r0 r1 s0 s1 m1 m2 m3 m4
    have BW := Lib.hid (Below.refl W.heap.size W)
    obtain ⟨k0, k1, k2, k3⟩ := HR.out.k.c4
    go_wp2_with fail
    refine (P1.out _ BW.out).mono ?_
    rintro e w1 ⟨rfl, hb1⟩
    have B1 := Lib.hid (below_on BW.out hb1)
    replace B0 := Lib.hid (below_on B0.out hb1)
    clear k0 k1 k2 k3 hb1
    obtain ⟨k0, k1, k2, k3⟩ := (HR.out.k.on B1.out).c4
    go_wp2_with fail
    refine (P2.out _ B1.out).mono ?_
    rintro e w2 ⟨rfl, hb2⟩
    replace B0 := Lib.hid (below_on B0.out hb2)
    clear k0 k1 k2 k3 hb2
    by_cases hg : g < 80
    · have d5 : decide ((g + 1) * (g + 1) * y ≤ x) = false := by have := Q1.out hg; simp; omega
      have d6 : decide (g < 80) = true := by simpa using hg
      go_wp2_with fail
      go_ret
      exact ⟨rfl, B0.out⟩
    · have d6 : decide (g < 80) = false := by simpa using hg
      go_wp2_with fail
      go_ret
      exact ⟨rfl, B0.out⟩
end Go.Proofs.YtjcepipgjpaclaaGreat
