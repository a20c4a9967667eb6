/- The law of efforts from the question on whether a carry was split. Condition: what both sides have said of it. -/
import Derived.Test.YtamehlafmfmgmaaCutFn2
import Derived.Test.YtamehlafmfmgmaaEffFn
import Derived.Test.YtamehlafmfmgmaaCarrier
import Derived.Test.YtamehlafmfmgmaaAreCarries
import Derived.Test.YtamehlafmfmgmaaSplit
namespace Go.Proofs.Ytamehlafmfmgmaa
open Go.RowKit

noncomputable def effBody : Code := (Try.f4.body).getD .skip
/-- The three lists around a split. -/
structure EffA (W : World) (vl vs vp : Value) (n : Nat) (xs : List Int) (i t q : Int) : Prop where
  l : Rd W W.heap.size 4 vl n xs
  s : Rd W W.heap.size 4 vs (spN n xs i t q) (spL n xs i t q)
  c : Cap vs
  p : ∃ A c, vp = .slice A (spN n xs i t q) c
theorem EffA.keep {W W' : World} {vl vs vp : Value} {n : Nat} {xs : List Int} {i t q : Int} (h : EffA W vl vs vp n xs i t q) (hb : Below W.heap.size W W') : EffA W' vl vs vp n xs i t q :=
  ⟨(h.l.below hb).more hb.size, (h.s.below hb).more hb.size, h.c, h.p⟩
set_option maxRecDepth 100000 in
set_option maxHeartbeats 4000000 in
theorem eff_a (w W : World) (hB : Below w.heap.size w W) (vl vs vp : Value) (n : Nat) (xs : List Int) (i t q : Int) (sb : Bool) (hA : EffA W vl vs vp n xs i t q) (hsb : spB n xs i t q = sb) (f : Nat → Value) :
    Code.wp Try.prog (tailOf 22 effBody) (bodyPost Try.prog Try.f4 (fun e w' => e = .returned (.bool true) ∧ Below w.heap.size w w')) ⟨#[f 0, f 1, f 2, f 3, f 4, vl, .int .i64 i, .int .i64 t, .int .i64 q, vs, .bool sb, vp, f 12, f 13, f 14, f 15, f 16, f 17, f 18, f 19, f 20, f 21, f 22, f 23, f 24, f 25, f 26, f 27, f 28, f 29, f 30, f 31, f 32, f 33, f 34, f 35, f 36, f 37, f 38, f 39, f 40, f 41, f 42, f 43, f 44, f 45, f 46, f 47, f 48, f 49, f 50, f 51, f 52, f 53, f 54, f 55, f 56, f 57, f 58, f 59, f 60, f 61, f 62, f 63, f 64, f 65, f 66, f 67, f 68, f 69, f 70, f 71, f 72, f 73, f 74, f 75, f 76, f 77, f 78, f 79, f 80, f 81, f 82, f 83, f 84, f 85, f 86, f 87, f 88, f 89, f 90, f 91, f 92, f 93, f 94, f 95, f 96, f 97, f 98, f 99, f 100, f 101, f 102, f 103, f 104, f 105, f 106, f 107, f 108, f 109, f 110, f 111, f 112, f 113, f 114, f 115, f 116, f 117, f 118, f 119, f 120, f 121, f 122, f 123, f 124, f 125, f 126, f 127, f 128, f 129, f 130, f 131, f 132, f 133, f 134, f 135, f 136, f 137, f 138, f 139, f 140, f 141, f 142, f 143, f 144, f 145, f 146, f 147, f 148, f 149, f 150, f 151, f 152, f 153, f 154, f 155, f 156, f 157, f 158, f 159, f 160, f 161, f 162, f 163, f 164, f 165, f 166, f 167, f 168, f 169, f 170, f 171, f 172, f 173, f 174, f 175, f 176, f 177, f 178, f 179, f 180, f 181, f 182, f 183, f 184, f 185, f 186, f 187, f 188, f 189, f 190, f 191, f 192, f 193, f 194, f 195, f 196, f 197, f 198, f 199, f 200, f 201, f 202, f 203, f 204, f 205, f 206, f 207, f 208, f 209, f 210, f 211, f 212, f 213, f 214, f 215, f 216, f 217, f 218, f 219, f 220, f 221, f 222, f 223, f 224, f 225, f 226, f 227, f 228, f 229, f 230, f 231, f 232, f 233, f 234, f 235, f 236, f 237, f 238, f 239, f 240, f 241, f 242, f 243, f 244, f 245, f 246, f 247, f 248, f 249, f 250, f 251, f 252, f 253, f 254, f 255, f 256, f 257, f 258, f 259, f 260, f 261, f 262, f 263, f 264, f 265, f 266, f 267, f 268, f 269, f 270, f 271, f 272, f 273, f 274, f 275, f 276, f 277, f 278, f 279, f 280, f 281, f 282, f 283, f 284, f 285, f 286, f 287, f 288, f 289, f 290, f 291, f 292, f 293, f 294, f 295, f 296, f 297, f 298, f 299, f 300, f 301, f 302, f 303, f 304, f 305, f 306, f 307, f 308, f 309, f 310, f 311, f 312, f 313, f 314, f 315, f 316, f 317, f 318, f 319, f 320, f 321, f 322, f 323, f 324, f 325, f 326, f 327, f 328, f 329, f 330, f 331, f 332, f 333, f 334, f 335, f 336, f 337, f 338, f 339, f 340, f 341, f 342, f 343, f 344, f 345, f 346, f 347, f 348, f 349, f 350, f 351, f 352, f 353, f 354, f 355, f 356, f 357, f 358, f 359, f 360, f 361, f 362, f 363, f 364, f 365, f 366, f 367, f 368, f 369, f 370, f 371, f 372, f 373, f 374, f 375, f 376, f 377, f 378, f 379, f 380, f 381, f 382, f 383, f 384, f 385, f 386, f 387, f 388, f 389, f 390, f 391, f 392, f 393, f 394, f 395, f 396, f 397], []⟩ W := by
  have B0 := Lib.hid hB
  have BW := Lib.hid (Below.refl W.heap.size W)
  clear hB
  conv => arg 2; whnf
  have EA := Lib.hid hA
  clear hA
  cases sb with
  | false =>
    clear hsb
    go_wp2_with fail
    go_ret
    exact ⟨rfl, B0.out⟩
  | true =>
    obtain ⟨k, rfl, hS⟩ := split_law (by have := EA.out.l.1; omega) hsb
    have HS := Lib.hid hS
    have hkn := hS.kn
    have hn40 := hS.n40
    obtain ⟨hl1, hf0, hft, htt, ht1⟩ := hS.rng
    have hold := hS.old
    have hnew := hS.new
    obtain ⟨A, c, rfl⟩ := EA.out.l.form4
    obtain ⟨b, off, rfl, hbB, hc⟩ := EA.out.l.carry (by omega)
    obtain ⟨c0, c1, c2, c3⟩ := hc k hkn
    obtain ⟨P0, eP⟩ : ∃ q, cP xs k = q := ⟨_, rfl⟩
    obtain ⟨L0, eL⟩ : ∃ q, cL xs k = q := ⟨_, rfl⟩
    obtain ⟨F0, eF⟩ : ∃ q, cF xs k = q := ⟨_, rfl⟩
    obtain ⟨T0, eT⟩ : ∃ q, cT xs k = q := ⟨_, rfl⟩
    rw [eP] at c0 hold
    rw [eL] at c1 hl1 hold hnew
    rw [eF] at c2 hf0 hft hold
    rw [eT] at c3 htt ht1 hnew
    have i0 : (0 : Int) ≤ (k : Int) := by omega
    have i1 : (k : Int) < (n : Int) := by omega
    obtain ⟨A2, C2, rfl⟩ := EA.out.p
    have hgood := hS.good
    have hN := hS.len
    have hs := EA.out.s
    have hcp := EA.out.c
    obtain ⟨N, eN⟩ : ∃ m, spN n xs (k : Int) t q = m := ⟨_, rfl⟩
    obtain ⟨ys, ey⟩ : ∃ m, spL n xs (k : Int) t q = m := ⟨_, rfl⟩
    rw [eN, ey] at hs hgood hold hnew
    rw [eN] at hN
    rw [eN]
    subst hN
    have HR := Lib.hid hs
    have HC := Lib.hid hcp
    have HO := Lib.hid hold
    have HW := Lib.hid hnew
    have nq : (((n + 1 : Nat) : Int) != (n : Int) + 1) = false := by simp
    have PA := Lib.hid (fun (B : Nat) (W' : World) (h1 : Rd W' B 4 vs (n + 1) ys) (h2 : B ≤ W'.heap.size) => AreCarries_any vs (n + 1) B ys W' hcp h1 h2 (by omega))
    rw [hgood] at PA
    have PC := Lib.hid (fun (c : Int) (B : Nat) (W' : World) (h1 : Rd W' B 4 vs (n + 1) ys) (h2 : B ≤ W'.heap.size) => CarrierAt_any vs (n + 1) B ys L0 c W' hcp h1 h2 (by omega))
    have e1 := IntWalk.i64_in (t - 1) (by omega)
    have e2 := IntWalk.i64_in (T0 - 1) (by omega)
    have e3 := IntWalk.i64_in ((n : Int) + 1) (by omega)
    clear hs hcp hold hnew hgood hS hsb eP eL eF eT eN ey hc EA HS
    have SX := Lib.hid (Blk.new W 52 #[.int .i64 P0, .int .i64 L0, .int .i64 F0, .int .i64 T0])
    replace B0 := Lib.hid (below_new B0.out (.cells #[.int .i64 P0, .int .i64 L0, .int .i64 F0, .int .i64 T0] 52))
    replace BW := Lib.hid (below_new BW.out (.cells #[.int .i64 P0, .int .i64 L0, .int .i64 F0, .int .i64 T0] 52))
    go_wp2_with fail
    refine (PA.out _ _ (HR.out.below BW.out) BW.out.size).mono ?_
    rintro e w1 ⟨rfl, hb⟩
    replace B0 := Lib.hid (below_on B0.out hb)
    replace BW := Lib.hid (below_on BW.out hb)
    replace SX := Lib.hid (SX.out.on hb)
    clear hb
    obtain ⟨x0, x1, x2, x3⟩ := SX.out.c4
    have hlt1 := SX.out.lt
    have SL := Lib.hid (Blk.new w1 3 (ints [F0, t - 1, t, T0 - 1]).toArray)
    replace B0 := Lib.hid (below_new B0.out (.cells (ints [F0, t - 1, t, T0 - 1]).toArray 3))
    replace BW := Lib.hid (below_new BW.out (.cells (ints [F0, t - 1, t, T0 - 1]).toArray 3))
    replace SX := Lib.hid (SX.out.alloc (.cells (ints [F0, t - 1, t, T0 - 1]).toArray 3))
    go_wp2_with fail
    go_loopw [372] (fun i wr => ∃ k : Nat, k ≤ 4 ∧ i = .int .i64 k ∧ Below w.heap.size w wr ∧ Below W.heap.size W wr ∧ Blk wr W.heap.size 52 #[.int .i64 P0, .int .i64 L0, .int .i64 F0, .int .i64 T0] ∧ Blk wr w1.heap.size 3 (ints [F0, t - 1, t, T0 - 1]).toArray) (fun i _ => 4 - (intOf i).toNat)
    case atStart => exact ⟨0, by omega, rfl, B0.out, BW.out, SX.out, SL.out⟩
    case round =>
      clear B0 BW SX SL x0 x1 x2 x3
      obtain ⟨j, hj, rfl, hb0, hbw, hsx, hsl⟩ := hrel
      have B0 := Lib.hid hb0
      have BW := Lib.hid hbw
      have SX := Lib.hid hsx
      have SL := Lib.hid hsl
      clear hb0 hbw hsx hsl
      obtain ⟨x0, x1, x2, x3⟩ := SX.out.c4
      obtain ⟨y0, y1, y2, y3⟩ := SL.out.c4
      by_cases hlt : j < 4
      · have hcases : j = 0 ∨ j = 1 ∨ j = 2 ∨ j = 3 := by omega
        clear hj hlt
        rcases hcases with rfl | rfl | rfl | rfl
        · have hl := HO.out F0 (by omega) (by omega)
          have Q0 := PC.out F0
          rw [hl.1, hl.2] at Q0
          have Q := Lib.hid Q0
          clear Q0 hl
          have dg : decide (t ≤ F0) = false := by simp; omega
          have nw : (P0 != P0) = false := by simp
          go_wp2_with fail
          refine (Q.out _ _ (HR.out.below BW.out) BW.out.size).mono ?_
          rintro e w2 ⟨rfl, hb⟩
          replace B0 := Lib.hid (below_on B0.out hb)
          replace BW := Lib.hid (below_on BW.out hb)
          replace SX := Lib.hid (SX.out.on hb)
          replace SL := Lib.hid (SL.out.on hb)
          clear hb x0 x1 x2 x3 y0 y1 y2 y3
          obtain ⟨x0, x1, x2, x3⟩ := SX.out.c4
          go_wp2_with fail
          go_roundw
          case rel => exact ⟨1, by omega, by go_num, B0.out, BW.out, SX.out, SL.out⟩
          case measure => simp [intOf]
        · have hl := HO.out (t - 1) (by omega) (by omega)
          have Q0 := PC.out (t - 1)
          rw [hl.1, hl.2] at Q0
          have Q := Lib.hid Q0
          clear Q0 hl
          have dg : decide (t ≤ (t - 1)) = false := by simp; omega
          have nw : (P0 != P0) = false := by simp
          go_wp2_with fail
          refine (Q.out _ _ (HR.out.below BW.out) BW.out.size).mono ?_
          rintro e w2 ⟨rfl, hb⟩
          replace B0 := Lib.hid (below_on B0.out hb)
          replace BW := Lib.hid (below_on BW.out hb)
          replace SX := Lib.hid (SX.out.on hb)
          replace SL := Lib.hid (SL.out.on hb)
          clear hb x0 x1 x2 x3 y0 y1 y2 y3
          obtain ⟨x0, x1, x2, x3⟩ := SX.out.c4
          go_wp2_with fail
          go_roundw
          case rel => exact ⟨2, by omega, by go_num, B0.out, BW.out, SX.out, SL.out⟩
          case measure => simp [intOf]
        · have hl := HW.out t (by omega) (by omega)
          have Q0 := PC.out t
          rw [hl.1, hl.2] at Q0
          have Q := Lib.hid Q0
          clear Q0 hl
          have dg : decide (t ≤ t) = true := by simp
          have nw : (q != q) = false := by simp
          go_wp2_with fail
          refine (Q.out _ _ (HR.out.below BW.out) BW.out.size).mono ?_
          rintro e w2 ⟨rfl, hb⟩
          replace B0 := Lib.hid (below_on B0.out hb)
          replace BW := Lib.hid (below_on BW.out hb)
          replace SX := Lib.hid (SX.out.on hb)
          replace SL := Lib.hid (SL.out.on hb)
          clear hb x0 x1 x2 x3 y0 y1 y2 y3
          obtain ⟨x0, x1, x2, x3⟩ := SX.out.c4
          go_wp2_with fail
          go_roundw
          case rel => exact ⟨3, by omega, by go_num, B0.out, BW.out, SX.out, SL.out⟩
          case measure => simp [intOf]
        · have hl := HW.out (T0 - 1) (by omega) (by omega)
          have Q0 := PC.out (T0 - 1)
          rw [hl.1, hl.2] at Q0
          have Q := Lib.hid Q0
          clear Q0 hl
          have dg : decide (t ≤ (T0 - 1)) = true := by simp; omega
          have nw : (q != q) = false := by simp
          go_wp2_with fail
          refine (Q.out _ _ (HR.out.below BW.out) BW.out.size).mono ?_
          rintro e w2 ⟨rfl, hb⟩
          replace B0 := Lib.hid (below_on B0.out hb)
          replace BW := Lib.hid (below_on BW.out hb)
          replace SX := Lib.hid (SX.out.on hb)
          replace SL := Lib.hid (SL.out.on hb)
          clear hb x0 x1 x2 x3 y0 y1 y2 y3
          obtain ⟨x0, x1, x2, x3⟩ := SX.out.c4
          go_wp2_with fail
          go_roundw
          case rel => exact ⟨4, by omega, by go_num, B0.out, BW.out, SX.out, SL.out⟩
          case measure => simp [intOf]
      · obtain rfl : j = 4 := by omega
        go_wp2_with fail
        go_ret
        exact ⟨rfl, B0.out⟩
end Go.Proofs.Ytamehlafmfmgmaa
