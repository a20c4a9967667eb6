/- The law on waves from its second transition on. Condition: the bytes can be read. -/
import Derived.Test.YtjcepipgjpaclaaGreatPFnWaves24
import Derived.Test.YtjcepipgjpaclaaGreatPFnWaves32
import Derived.Test.YtjcepipgjpaclaaGreatPFnWaves40
import Derived.Test.YtjcepipgjpaclaaGreatPFnWaves23
import Derived.Test.YtjcepipgjpaclaaGreatPFnWaves42
namespace Go.Proofs.YtjcepipgjpaclaaGreat
open Go.RowKit

theorem Rows.keep {w w' : World} {lo n : Nat} {v : Value} {gs : List Nat} {rs : List (List Int)} (h : Rows w lo v n gs rs) (hb : Below w.heap.size w w') : Rows w' lo v n gs rs := h.below hb (Nat.le_refl _)
set_option maxRecDepth 100000 in
set_option maxHeartbeats 4000000 in
theorem wv_b (w W : World) (hB : Below w.heap.size w W) (A1 : Option Addr) (n1 c1 : Nat) (h1 : RdB W W.heap.size A1 n1) (hm1 : n1 ≤ 9223372036854775807) (f : Nat → Value) :
    Code.wp Tryz.prog (tailOf 13 wvBody) (bodyPost Tryz.prog Tryz.f3 (fun e w' => e = .returned (.bool true) ∧ Below w.heap.size w w')) ⟨#[f 0, .slice A1 n1 c1, f 2, f 3, f 4, f 5, f 6, f 7, f 8, f 9, f 10, f 11, f 12, f 13, f 14, f 15, f 16, f 17, f 18, f 19, f 20, f 21, f 22, f 23, f 24, f 25, f 26, f 27, f 28, f 29, f 30, f 31, f 32, f 33, f 34, f 35, f 36, f 37, f 38, f 39, f 40, f 41, f 42, f 43, f 44, f 45, f 46, f 47, f 48, f 49, f 50, f 51, f 52, f 53, f 54, f 55, f 56, f 57, f 58, f 59, f 60, f 61, f 62, f 63, f 64, f 65, f 66, f 67, f 68, f 69, f 70, f 71, f 72, f 73, f 74, f 75, f 76, f 77, f 78, f 79, f 80, f 81, f 82, f 83, f 84, f 85, f 86, f 87, f 88, f 89, f 90, f 91, f 92, f 93, f 94, f 95, f 96, f 97, f 98, f 99, f 100, f 101, f 102, f 103, f 104, f 105, f 106, f 107, f 108, f 109, f 110, f 111, f 112, f 113, f 114, f 115, f 116, f 117, f 118, f 119, f 120, f 121, f 122, f 123, f 124, f 125, f 126, f 127, f 128, f 129, f 130, f 131, f 132, f 133, f 134, f 135, f 136, f 137, f 138, f 139, f 140, f 141, f 142, f 143, f 144, f 145, f 146, f 147, f 148, f 149, f 150, f 151, f 152, f 153, f 154, f 155, f 156, f 157, f 158, f 159, f 160, f 161, f 162, f 163, f 164, f 165, f 166, f 167, f 168, f 169, f 170, f 171, f 172, f 173, f 174, f 175, f 176, f 177, f 178, f 179, f 180, f 181, f 182, f 183, f 184, f 185, f 186, f 187, f 188, f 189, f 190, f 191, f 192, f 193, f 194, f 195, f 196, f 197, f 198, f 199, f 200, f 201, f 202, f 203, f 204, f 205, f 206, f 207, f 208, f 209, f 210, f 211, f 212, f 213, f 214, f 215, f 216, f 217, f 218, f 219, f 220, f 221, f 222, f 223, f 224, f 225, f 226, f 227, f 228, f 229, f 230, f 231, f 232, f 233, f 234, f 235, f 236, f 237, f 238, f 239, f 240, f 241, f 242, f 243, f 244, f 245, f 246, f 247, f 248, f 249, f 250, f 251, f 252, f 253, f 254, f 255, f 256, f 257, f 258, f 259, f 260, f 261, f 262, f 263, f 264, f 265, f 266, f 267, f 268, f 269, f 270, f 271, f 272, f 273, f 274, f 275, f 276, f 277, f 278, f 279, f 280, f 281, f 282, f 283, f 284, f 285, f 286, f 287, f 288, f 289, f 290, f 291, f 292, f 293, f 294, f 295, f 296, f 297, f 298, f 299, f 300, f 301, f 302, f 303, f 304, f 305, f 306, f 307, f 308, f 309, f 310, f 311, f 312, f 313, f 314, f 315, f 316, f 317, f 318, f 319, f 320, f 321, f 322, f 323, f 324, f 325, f 326, f 327, f 328, f 329, f 330, f 331, f 332, f 333, f 334, f 335, f 336, f 337, f 338, f 339, f 340, f 341, f 342, f 343, f 344, f 345, f 346, f 347, f 348, f 349, f 350, f 351, f 352, f 353, f 354, f 355, f 356, f 357, f 358, f 359, f 360, f 361], []⟩ W := by
  conv => arg 2; whnf
  have H1 := Lib.hid h1
  have B0 := Lib.hid hB
  have BW := Lib.hid (Below.refl W.heap.size W)
  clear h1 hB
  go_wp2_with fail
  refine (DrawRoomOf_any A1 n1 c1 _ H1.out hm1).mono ?_
  rintro e w1 ⟨r, t, rfl, oa, hsz, hb⟩
  replace B0 := Lib.hid (below_on B0.out hb)
  replace BW := Lib.hid (below_on BW.out hb)
  clear hb
  have CT := Lib.hid oa.cap
  have RT := Lib.hid oa.rd
  have ST := Lib.hid (show t.small from ⟨by omega, by omega, by omega⟩)
  obtain ⟨Ar, cr, Dr, dr, Er, er, rfl, -, -, -⟩ := oa.form
  clear oa hsz
  have BT := Lib.hid (Below.refl w1.heap.size w1)
  have KT := Lib.hid (Blk.new w1 27 #[.slice Ar t.n cr, .slice Dr t.m dr, .int .i64 t.c, .slice Er t.p er])
  replace B0 := Lib.hid (below_new B0.out (.cells #[.slice Ar t.n cr, .slice Dr t.m dr, .int .i64 t.c, .slice Er t.p er] 27))
  replace BW := Lib.hid (below_new BW.out (.cells #[.slice Ar t.n cr, .slice Dr t.m dr, .int .i64 t.c, .slice Er t.p er] 27))
  replace BT := Lib.hid (below_new BT.out (.cells #[.slice Ar t.n cr, .slice Dr t.m dr, .int .i64 t.c, .slice Er t.p er] 27))
  obtain ⟨gt, egt⟩ : ∃ q, w1.heap.size = q := ⟨_, rfl⟩
  have EGT := Lib.hid egt
  clear egt
  obtain ⟨ob, gob⟩ : ∃ q, roB t = q := ⟨_, rfl⟩
  obtain ⟨cb, gcb⟩ : ∃ q, clB t = q := ⟨_, rfl⟩
  have P := fun (B : Nat) (W : World) (h1 : RdT W B (.agg #[.slice Ar t.n cr, .slice Dr t.m dr, .int .i64 t.c, .slice Er t.p er]) t) (h2 : B ≤ W.heap.size) => RoomOf_any (.agg #[.slice Ar t.n cr, .slice Dr t.m dr, .int .i64 t.c, .slice Er t.p er]) B t W CT.out h1 h2 ST.out
  rw [gob] at P
  replace P := Lib.hid P
  obtain ⟨k0, k1, k2, k3⟩ := KT.out.c4
  go_wp2_with fail
  refine (P.out _ _ (RT.out.below BT.out) BT.out.size).mono ?_
  rintro e w2 ⟨rfl, hb⟩
  replace B0 := Lib.hid (below_on B0.out hb)
  replace BW := Lib.hid (below_on BW.out hb)
  replace BT := Lib.hid (below_on BT.out hb)
  replace KT := Lib.hid (KT.out.on hb)
  clear hb
  clear P k0 k1 k2 k3
  have P := fun (B : Nat) (W : World) (h1 : RdT W B (.agg #[.slice Ar t.n cr, .slice Dr t.m dr, .int .i64 t.c, .slice Er t.p er]) t) (h2 : B ≤ W.heap.size) => specRoomOf_any (.agg #[.slice Ar t.n cr, .slice Dr t.m dr, .int .i64 t.c, .slice Er t.p er]) B t W CT.out h1 h2 ST.out
  rw [gob] at P
  replace P := Lib.hid P
  obtain ⟨k0, k1, k2, k3⟩ := KT.out.c4
  go_wp2_with fail
  refine (P.out _ _ (RT.out.below BT.out) BT.out.size).mono ?_
  rintro e w3 ⟨rfl, hb⟩
  replace B0 := Lib.hid (below_on B0.out hb)
  replace BW := Lib.hid (below_on BW.out hb)
  replace BT := Lib.hid (below_on BT.out hb)
  replace KT := Lib.hid (KT.out.on hb)
  clear hb
  clear P k0 k1 k2 k3
  have P := fun (B : Nat) (W : World) (h1 : RdT W B (.agg #[.slice Ar t.n cr, .slice Dr t.m dr, .int .i64 t.c, .slice Er t.p er]) t) (h2 : B ≤ W.heap.size) => CollidingPairs_any (.agg #[.slice Ar t.n cr, .slice Dr t.m dr, .int .i64 t.c, .slice Er t.p er]) B t W CT.out h1 h2 ST.out
  rw [gcb] at P
  replace P := Lib.hid P
  obtain ⟨k0, k1, k2, k3⟩ := KT.out.c4
  go_wp2_with fail
  refine (P.out _ _ (RT.out.below BT.out) BT.out.size).mono ?_
  rintro e w4 ⟨vc1, gc1, rfl, hrw, hb⟩
  replace B0 := Lib.hid (below_on B0.out hb)
  replace BW := Lib.hid (below_on BW.out hb)
  replace BT := Lib.hid (below_on BT.out hb)
  replace KT := Lib.hid (KT.out.on hb)
  clear hb
  have Wc1 := Lib.hid hrw
  obtain ⟨Sc1, sc1, rfl⟩ := hrw.form
  clear hrw P k0 k1 k2 k3
  have P := fun (B : Nat) (W : World) (h1 : RdT W B (.agg #[.slice Ar t.n cr, .slice Dr t.m dr, .int .i64 t.c, .slice Er t.p er]) t) (h2 : B ≤ W.heap.size) => specCollidingPairs_any (.agg #[.slice Ar t.n cr, .slice Dr t.m dr, .int .i64 t.c, .slice Er t.p er]) B t W CT.out h1 h2 ST.out
  rw [gcb] at P
  replace P := Lib.hid P
  obtain ⟨k0, k1, k2, k3⟩ := KT.out.c4
  go_wp2_with fail
  refine (P.out _ _ (RT.out.below BT.out) BT.out.size).mono ?_
  rintro e w5 ⟨vc2, gc2, rfl, hrw, hb⟩
  replace B0 := Lib.hid (below_on B0.out hb)
  replace BW := Lib.hid (below_on BW.out hb)
  replace BT := Lib.hid (below_on BT.out hb)
  replace KT := Lib.hid (KT.out.on hb)
  replace Wc1 := Lib.hid (Wc1.out.keep hb)
  clear hb
  have Wc2 := Lib.hid hrw
  obtain ⟨Sc2, sc2, rfl⟩ := hrw.form
  clear hrw P k0 k1 k2 k3
  have no : (ob != ob) = false := by simp
  have nc : (cb != cb) = false := by simp
  have n1 : (roA t != roA t) = false := by simp
  have n2 : (roC t != roC t) = false := by simp
  have GOB := Lib.hid gob
  have hcases : ob = false ∨ (ob = true ∧ cb = true) := by
    cases ob with
    | false => exact .inl rfl
    | true => exact .inr ⟨rfl, by rw [← gcb]; exact (ro_in gob).1⟩
  clear gob gcb
  rcases hcases with rfl | ⟨rfl, rfl⟩
  · go_wp2_with fail
    refine (sameLists_same _ _ (clN t) _ _ _ _ (clL t) _ Wc1.out Wc2.out (cl_small t).1).mono ?_
    rintro e w6 ⟨rfl, hb⟩
    replace B0 := Lib.hid (below_on B0.out hb)
    replace BW := Lib.hid (below_on BW.out hb)
    replace BT := Lib.hid (below_on BT.out hb)
    replace KT := Lib.hid (KT.out.on hb)
    replace Wc1 := Lib.hid (Wc1.out.keep hb)
    replace Wc2 := Lib.hid (Wc2.out.keep hb)
    clear hb
    have HC := Lib.hid (fun f => wv_a w w6 B0.out gt Ar Dr Er cr dr er t Sc2 sc2 false ⟨by rw [← EGT.out]; exact KT.out, (RT.out.below BT.out).more BT.out.size, CT.out, ST.out⟩ GOB.out f)
    rw [EGT.out]
    go_upto_if 303 with (fail)
    go_step
    go_step
    go_step
    go_step
    exact wp_of_fn (by kernel_rfl) HC.out
  · go_wp2_with fail
    refine (sameLists_same _ _ (clN t) _ _ _ _ (clL t) _ Wc1.out Wc2.out (cl_small t).1).mono ?_
    rintro e w6 ⟨rfl, hb⟩
    replace B0 := Lib.hid (below_on B0.out hb)
    replace BW := Lib.hid (below_on BW.out hb)
    replace BT := Lib.hid (below_on BT.out hb)
    replace KT := Lib.hid (KT.out.on hb)
    replace Wc1 := Lib.hid (Wc1.out.keep hb)
    replace Wc2 := Lib.hid (Wc2.out.keep hb)
    clear hb
    have HC := Lib.hid (fun f => wv_a w w6 B0.out gt Ar Dr Er cr dr er t Sc2 sc2 true ⟨by rw [← EGT.out]; exact KT.out, (RT.out.below BT.out).more BT.out.size, CT.out, ST.out⟩ GOB.out f)
    rw [EGT.out]
    go_upto_if 303 with (fail)
    go_step
    go_step
    go_step
    go_step
    exact wp_of_fn (by kernel_rfl) HC.out
end Go.Proofs.YtjcepipgjpaclaaGreat
