/- The law of files from the drawn way on: its short way and the way turned round are as long, have the same spots and fold back alike. Condition: what the program has said of the way. -/
import Derived.Test.YtciolimmfldpbaaFilesTail
import Derived.Test.YtciolimmfldpbaaFilesLaw
import Derived.Test.YtciolimmfldpbaaShort
import Derived.Test.YtciolimmfldpbaaFold
import Derived.Test.YtciolimmfldpbaaFoldSpec
import Derived.Test.YtciolimmfldpbaaReverse
import Derived.Test.YtciolimmfldpbaaWayLength
namespace Go.Proofs.Ytciolimmfldpbaa
open Go.RowKit

set_option maxRecDepth 100000 in
set_option maxHeartbeats 4000000 in
theorem files_b (w W : World) (l fl : Value) (rn g L lv : Int) (fb lb : Bool) (HD : ∀ (wd : World), Below W.heap.size W wd → ∀ f : Nat → Value, Code.wp Try.prog (tailOf 16 filesBody) (bodyPost Try.prog Try.f4 (fun e w' => e = .returned (.bool true) ∧ Below w.heap.size w w')) ⟨#[f 0, f 1, f 2, f 3, f 4, l, .int .i64 rn, .int .i64 g, .int .i64 L, f 9, .bool fb, fl, f 12, f 13, .bool lb, .int .i64 lv, f 16, f 17, f 18, f 19, f 20, f 21, f 22, f 23, f 24, f 25, f 26, f 27, f 28, f 29, f 30, f 31, f 32, f 33, f 34, f 35, f 36, f 37, f 38, f 39, f 40, f 41, f 42, f 43, f 44, f 45, f 46, f 47, f 48, f 49, f 50, f 51, f 52, f 53, f 54, f 55, f 56, f 57, f 58, f 59, f 60, f 61, f 62, f 63, f 64, f 65, f 66, f 67, f 68, f 69, f 70, f 71, f 72, f 73, f 74, f 75, f 76, f 77, f 78, f 79, f 80, f 81, f 82, f 83, f 84, f 85, f 86, f 87, f 88, f 89, f 90, f 91, f 92, f 93, f 94, f 95, f 96, f 97, f 98, f 99, f 100, f 101, f 102, f 103, f 104, f 105, f 106, f 107, f 108, f 109, f 110, f 111, f 112, f 113, f 114, f 115, f 116, f 117, f 118, f 119, f 120, f 121, f 122, f 123, f 124, f 125, f 126, f 127, f 128, f 129, f 130, f 131, f 132, f 133, f 134, f 135, f 136, f 137, f 138, f 139, f 140, f 141, f 142, f 143, f 144, f 145, f 146, f 147, f 148, f 149, f 150, f 151, f 152, f 153, f 154, f 155, f 156, f 157, f 158, f 159, f 160, f 161, f 162, f 163, f 164, f 165, f 166, f 167, f 168, f 169, f 170, f 171, f 172, f 173, f 174, f 175, f 176, f 177, f 178, f 179, f 180, f 181, f 182, f 183, f 184, f 185, f 186, f 187, f 188, f 189, f 190, f 191, f 192, f 193, f 194, f 195, f 196, f 197, f 198, f 199, f 200, f 201, f 202, f 203, f 204, f 205, f 206, f 207, f 208, f 209, f 210, f 211, f 212, f 213, f 214, f 215, f 216, f 217, f 218, f 219, f 220, f 221, f 222, f 223, f 224, f 225, f 226, f 227, f 228, f 229, f 230, f 231, f 232, f 233, f 234, f 235, f 236, f 237, f 238, f 239, f 240, f 241, f 242, f 243, f 244, f 245, f 246, f 247, f 248, f 249, f 250, f 251, f 252, f 253, f 254, f 255, f 256, f 257, f 258, f 259, f 260, f 261, f 262, f 263, f 264, f 265, f 266, f 267, f 268, f 269, f 270, f 271, f 272, f 273, f 274, f 275, f 276, f 277, f 278, f 279, f 280, f 281, f 282, f 283, f 284, f 285, f 286, f 287, f 288, f 289, f 290, f 291, f 292, f 293, f 294, f 295, f 296, f 297, f 298, f 299, f 300, f 301, f 302, f 303, f 304, f 305, f 306, f 307, f 308, f 309, f 310, f 311, f 312, f 313, f 314, f 315, f 316, f 317, f 318, f 319, f 320, f 321, f 322, f 323, f 324, f 325, f 326, f 327, f 328, f 329, f 330, f 331, f 332, f 333, f 334, f 335, f 336, f 337, f 338, f 339, f 340, f 341, f 342, f 343, f 344, f 345, f 346, f 347, f 348, f 349, f 350, f 351, f 352, f 353, f 354, f 355, f 356, f 357, f 358, f 359, f 360, f 361, f 362, f 363, f 364, f 365, f 366, f 367, f 368, f 369, f 370, f 371, f 372, f 373, f 374, f 375, f 376, f 377, f 378, f 379, f 380, f 381, f 382, f 383, f 384, f 385, f 386, f 387, f 388, f 389, f 390, f 391, f 392, f 393, f 394, f 395, f 396, f 397, f 398, f 399, f 400, f 401, f 402, f 403, f 404, f 405, f 406, f 407, f 408, f 409, f 410, f 411, f 412, f 413, f 414, f 415, f 416, f 417, f 418, f 419, f 420, f 421, f 422, f 423, f 424, f 425, f 426, f 427, f 428, f 429, f 430, f 431, f 432, f 433, f 434, f 435, f 436, f 437, f 438, f 439, f 440, f 441, f 442, f 443, f 444, f 445, f 446, f 447, f 448, f 449, f 450, f 451, f 452, f 453, f 454, f 455], []⟩ wd)
    (a s u r : Value) (m : Nat) (zs : List Int) (wb fo : Bool) (ha : Rd W W.heap.size 2 a m zs) (hm : m ≤ 14) (hw : wayB m zs = wb) (hfo : fbV m zs = fo) (hs : Rd W W.heap.size 2 s (swN m zs) (swL m zs)) (hu : Rd W W.heap.size 2 u (swN m zs) (swL m zs)) (hr : Rd W W.heap.size 2 r (rwN m zs) (rwL m zs)) (f : Nat → Value) :
    Code.wp Try.prog (tailOf 15 filesBody) (bodyPost Try.prog Try.f4 (fun e w' => e = .returned (.bool true) ∧ Below w.heap.size w w')) ⟨#[f 0, f 1, f 2, f 3, f 4, l, .int .i64 rn, .int .i64 g, .int .i64 L, f 9, .bool fb, fl, f 12, f 13, .bool lb, .int .i64 lv, f 16, a, s, .bool wb, u, f 21, f 22, f 23, .bool fo, f 25, r, f 27, f 28, f 29, f 30, f 31, f 32, f 33, f 34, f 35, f 36, f 37, f 38, f 39, f 40, f 41, f 42, f 43, f 44, f 45, f 46, f 47, f 48, f 49, f 50, f 51, f 52, f 53, f 54, f 55, f 56, f 57, f 58, f 59, f 60, f 61, f 62, f 63, f 64, f 65, f 66, f 67, f 68, f 69, f 70, f 71, f 72, f 73, f 74, f 75, f 76, f 77, f 78, f 79, f 80, f 81, f 82, f 83, f 84, f 85, f 86, f 87, f 88, f 89, f 90, f 91, f 92, f 93, f 94, f 95, f 96, f 97, f 98, f 99, f 100, f 101, f 102, f 103, f 104, f 105, f 106, f 107, f 108, f 109, f 110, f 111, f 112, f 113, f 114, f 115, f 116, f 117, f 118, f 119, f 120, f 121, f 122, f 123, f 124, f 125, f 126, f 127, f 128, f 129, f 130, f 131, f 132, f 133, f 134, f 135, f 136, f 137, f 138, f 139, f 140, f 141, f 142, f 143, f 144, f 145, f 146, f 147, f 148, f 149, f 150, f 151, f 152, f 153, f 154, f 155, f 156, f 157, f 158, f 159, f 160, f 161, f 162, f 163, f 164, f 165, f 166, f 167, f 168, f 169, f 170, f 171, f 172, f 173, f 174, f 175, f 176, f 177, f 178, f 179, f 180, f 181, f 182, f 183, f 184, f 185, f 186, f 187, f 188, f 189, f 190, f 191, f 192, f 193, f 194, f 195, f 196, f 197, f 198, f 199, f 200, f 201, f 202, f 203, f 204, f 205, f 206, f 207, f 208, f 209, f 210, f 211, f 212, f 213, f 214, f 215, f 216, f 217, f 218, f 219, f 220, f 221, f 222, f 223, f 224, f 225, f 226, f 227, f 228, f 229, f 230, f 231, f 232, f 233, f 234, f 235, f 236, f 237, f 238, f 239, f 240, f 241, f 242, f 243, f 244, f 245, f 246, f 247, f 248, f 249, f 250, f 251, f 252, f 253, f 254, f 255, f 256, f 257, f 258, f 259, f 260, f 261, f 262, f 263, f 264, f 265, f 266, f 267, f 268, f 269, f 270, f 271, f 272, f 273, f 274, f 275, f 276, f 277, f 278, f 279, f 280, f 281, f 282, f 283, f 284, f 285, f 286, f 287, f 288, f 289, f 290, f 291, f 292, f 293, f 294, f 295, f 296, f 297, f 298, f 299, f 300, f 301, f 302, f 303, f 304, f 305, f 306, f 307, f 308, f 309, f 310, f 311, f 312, f 313, f 314, f 315, f 316, f 317, f 318, f 319, f 320, f 321, f 322, f 323, f 324, f 325, f 326, f 327, f 328, f 329, f 330, f 331, f 332, f 333, f 334, f 335, f 336, f 337, f 338, f 339, f 340, f 341, f 342, f 343, f 344, f 345, f 346, f 347, f 348, f 349, f 350, f 351, f 352, f 353, f 354, f 355, f 356, f 357, f 358, f 359, f 360, f 361, f 362, f 363, f 364, f 365, f 366, f 367, f 368, f 369, f 370, f 371, f 372, f 373, f 374, f 375, f 376, f 377, f 378, f 379, f 380, f 381, f 382, f 383, f 384, f 385, f 386, f 387, f 388, f 389, f 390, f 391, f 392, f 393, f 394, f 395, f 396, f 397, f 398, f 399, f 400, f 401, f 402, f 403, f 404, f 405, f 406, f 407, f 408, f 409, f 410, f 411, f 412, f 413, f 414, f 415, f 416, f 417, f 418, f 419, f 420, f 421, f 422, f 423, f 424, f 425, f 426, f 427, f 428, f 429, f 430, f 431, f 432, f 433, f 434, f 435, f 436, f 437, f 438, f 439, f 440, f 441, f 442, f 443, f 444, f 445, f 446, f 447, f 448, f 449, f 450, f 451, f 452, f 453, f 454, f 455], []⟩ W := by
  conv => arg 2; whnf
  have HH := Lib.hid HD
  clear HD
  cases wb with
  | false =>
    clear ha hs hu hr hw hfo
    go_upto_if 209 with (fail)
    go_step
    go_step
    go_step
    go_step
    exact wp_of_fn (by kernel_rfl) (HH.out W (Below.refl _ _))
  | true =>
    have esw : swN m zs = shN m zs m ∧ swL m zs = shTo m zs m := by simp [swN, swL, hw]
    have erw : rwN m zs = m ∧ rwL m zs = revTo m zs m := by simp [rwN, rwL, hw]
    rw [esw.1, esw.2] at hs hu
    rw [erw.1, erw.2] at hr
    obtain ⟨sw, sl, _, _⟩ := short_law hw
    obtain ⟨rw', rl, _⟩ := rev_law hw
    have E6 := Lib.hid (show rwN m (revTo m zs m) = m ∧ rwL m (revTo m zs m) = zs by simp [rwN, rwL, rw', rev_twice ha.1])
    have hle := shN_le m zs m
    have f1 : fbAny m zs = fo := by rw [← hfo]; simp [fbV, hw]
    have f2 : fbV m (revTo m zs m) = fo := by simp [fbV, rw', rev_fold hw, f1]
    have f3 : fbV (shN m zs m) (shTo m zs m) = fo := by simp [fbV, sw, short_fold hw, f1]
    have hK0 := lenTo_in (wayB_yes hw).2.1 (m - 1) (by have := (wayB_yes hw).1; omega)
    have AT := Lib.hid (fun q (h0 : 0 ≤ q) (h1 : q ≤ lenTo zs (m - 1)) => along_at hw h0 h1)
    have AS := Lib.hid (fun q (h0 : 0 ≤ q) (h1 : q ≤ lenTo zs (m - 1)) => along_short hw h0 h1)
    have AR := Lib.hid (fun q (h0 : 0 ≤ q) (h1 : q ≤ lenTo zs (m - 1)) => along_rev hw h0 h1)
    have P1 := fun (V : World) (h1 : Rd V W.heap.size 2 a m zs) (h2 : W.heap.size ≤ V.heap.size) => WayLength_any a m W.heap.size zs V h1 h2 (by omega)
    have P2 := fun (V : World) (h1 : Rd V W.heap.size 2 a m zs) (h2 : W.heap.size ≤ V.heap.size) => specWayLength_any a m W.heap.size zs V h1 h2 (by omega)
    have P3 := fun (V : World) (h1 : Rd V W.heap.size 2 s (shN m zs m) (shTo m zs m)) (h2 : W.heap.size ≤ V.heap.size) => WayLength_any s _ W.heap.size _ V h1 h2 (by omega)
    have P4 := fun (V : World) (h1 : Rd V W.heap.size 2 r m (revTo m zs m)) (h2 : W.heap.size ≤ V.heap.size) => FoldsBack_any r _ W.heap.size _ V h1 h2 (by omega)
    have P5 := fun (V : World) (h1 : Rd V W.heap.size 2 s (shN m zs m) (shTo m zs m)) (h2 : W.heap.size ≤ V.heap.size) => FoldsBack_any s _ W.heap.size _ V h1 h2 (by omega)
    have P6 := fun (V : World) (h1 : Rd V W.heap.size 2 r m (revTo m zs m)) (h2 : W.heap.size ≤ V.heap.size) => ReverseWay_any r m W.heap.size _ V h1 h2 (by omega)
    have P7 := fun (V : World) (h1 : Rd V W.heap.size 2 s (shN m zs m) (shTo m zs m)) (h2 : W.heap.size ≤ V.heap.size) => IsWay_any s _ W.heap.size _ V h1 h2 (by omega)
    have wl : wlV m zs = lenTo zs (m - 1) := by simp [wlV, hw]
    have wl2 : wlV (shN m zs m) (shTo m zs m) = lenTo zs (m - 1) := by simp [wlV, sw, sl]
    rw [wl, hw] at P1 P2
    rw [wl2, sw] at P3
    rw [f2, rw'] at P4
    rw [f3, sw] at P5
    rw [rw'] at P6
    rw [sw] at P7
    obtain ⟨K, eK⟩ : ∃ K, lenTo zs (m - 1) = K := ⟨_, rfl⟩
    rw [eK] at P1 P2 P3 AT AS AR hK0
    have nK : (K != K) = false := by simp
    have nF : (fo != fo) = false := by simp
    have nM : decide ((m : Int) < ((shN m zs m : Nat) : Int)) = false := by simp; omega
    have nM2 : ∀ i : Decidable (m < shN m zs m), @decide (m < shN m zs m) i = false := fun i => decide_eq_false (by omega)
    obtain ⟨ns, ens⟩ : ∃ q, shN m zs m = q := ⟨_, rfl⟩
    obtain ⟨ss, ess⟩ : ∃ q, shTo m zs m = q := ⟨_, rfl⟩
    obtain ⟨rr, err⟩ : ∃ q, revTo m zs m = q := ⟨_, rfl⟩
    rw [ens, ess] at P3 P5 P7 hs hu AS
    rw [ens] at nM nM2 hle
    rw [err] at P4 P6 hr AR E6
    replace P1 := Lib.hid P1
    replace P2 := Lib.hid P2
    replace P3 := Lib.hid P3
    replace P4 := Lib.hid P4
    replace P5 := Lib.hid P5
    replace P6 := Lib.hid P6
    replace P7 := Lib.hid P7
    obtain ⟨Aa, ca, rfl⟩ := ha.form
    obtain ⟨Au, cu, rfl⟩ := hu.form
    have RA := Lib.hid ha
    have RS := Lib.hid hs
    have RR := Lib.hid hr
    have K0 : 0 ≤ K := hK0.1
    have K1 : K ≤ 30000 := by omega
    have T := Lib.hid (Below.refl W.heap.size W)
    have AL1 := fun q (V : World) (h1 : Rd V W.heap.size 2 (.slice Aa m ca) m zs) (h2 : W.heap.size ≤ V.heap.size) => SpotAlong_any (.slice Aa m ca) m W.heap.size zs q V h1 h2 (by omega)
    have AL2 := fun q (V : World) (h1 : Rd V W.heap.size 2 s ns ss) (h2 : W.heap.size ≤ V.heap.size) => SpotAlong_any s ns W.heap.size ss q V h1 h2 (by omega)
    have AL3 := fun q (V : World) (h1 : Rd V W.heap.size 2 r m rr) (h2 : W.heap.size ≤ V.heap.size) => SpotAlong_any r m W.heap.size rr q V h1 h2 (by omega)
    have AL4 := fun q (V : World) (h1 : Rd V W.heap.size 2 (.slice Aa m ca) m zs) (h2 : W.heap.size ≤ V.heap.size) => specSpotAlong_any (.slice Aa m ca) m W.heap.size zs q V h1 h2 (by omega)
    replace AL1 := Lib.hid AL1
    replace AL2 := Lib.hid AL2
    replace AL3 := Lib.hid AL3
    replace AL4 := Lib.hid AL4
    clear ha hs hu hr hw hfo esw erw sw sl rw' rl f1 f2 f3 hK0 wl wl2 eK ens ess err
    go_step
    go_step
    refine wp_cut (fun a' wk => ∃ f : Nat → Value, (Below W.heap.size W wk) ∧ a' = ⟨#[f 0, f 1, f 2, f 3, f 4, l, .int .i64 rn, .int .i64 g, .int .i64 L, f 9, .bool fb, fl, f 12, f 13, .bool lb, .int .i64 lv, f 16, f 17, f 18, f 19, f 20, f 21, f 22, f 23, f 24, f 25, f 26, f 27, f 28, f 29, f 30, f 31, f 32, f 33, f 34, f 35, f 36, f 37, f 38, f 39, f 40, f 41, f 42, f 43, f 44, f 45, f 46, f 47, f 48, f 49, f 50, f 51, f 52, f 53, f 54, f 55, f 56, f 57, f 58, f 59, f 60, f 61, f 62, f 63, f 64, f 65, f 66, f 67, f 68, f 69, f 70, f 71, f 72, f 73, f 74, f 75, f 76, f 77, f 78, f 79, f 80, f 81, f 82, f 83, f 84, f 85, f 86, f 87, f 88, f 89, f 90, f 91, f 92, f 93, f 94, f 95, f 96, f 97, f 98, f 99, f 100, f 101, f 102, f 103, f 104, f 105, f 106, f 107, f 108, f 109, f 110, f 111, f 112, f 113, f 114, f 115, f 116, f 117, f 118, f 119, f 120, f 121, f 122, f 123, f 124, f 125, f 126, f 127, f 128, f 129, f 130, f 131, f 132, f 133, f 134, f 135, f 136, f 137, f 138, f 139, f 140, f 141, f 142, f 143, f 144, f 145, f 146, f 147, f 148, f 149, f 150, f 151, f 152, f 153, f 154, f 155, f 156, f 157, f 158, f 159, f 160, f 161, f 162, f 163, f 164, f 165, f 166, f 167, f 168, f 169, f 170, f 171, f 172, f 173, f 174, f 175, f 176, f 177, f 178, f 179, f 180, f 181, f 182, f 183, f 184, f 185, f 186, f 187, f 188, f 189, f 190, f 191, f 192, f 193, f 194, f 195, f 196, f 197, f 198, f 199, f 200, f 201, f 202, f 203, f 204, f 205, f 206, f 207, f 208, f 209, f 210, f 211, f 212, f 213, f 214, f 215, f 216, f 217, f 218, f 219, f 220, f 221, f 222, f 223, f 224, f 225, f 226, f 227, f 228, f 229, f 230, f 231, f 232, f 233, f 234, f 235, f 236, f 237, f 238, f 239, f 240, f 241, f 242, f 243, f 244, f 245, f 246, f 247, f 248, f 249, f 250, f 251, f 252, f 253, f 254, f 255, f 256, f 257, f 258, f 259, f 260, f 261, f 262, f 263, f 264, f 265, f 266, f 267, f 268, f 269, f 270, f 271, f 272, f 273, f 274, f 275, f 276, f 277, f 278, f 279, f 280, f 281, f 282, f 283, f 284, f 285, f 286, f 287, f 288, f 289, f 290, f 291, f 292, f 293, f 294, f 295, f 296, f 297, f 298, f 299, f 300, f 301, f 302, f 303, f 304, f 305, f 306, f 307, f 308, f 309, f 310, f 311, f 312, f 313, f 314, f 315, f 316, f 317, f 318, f 319, f 320, f 321, f 322, f 323, f 324, f 325, f 326, f 327, f 328, f 329, f 330, f 331, f 332, f 333, f 334, f 335, f 336, f 337, f 338, f 339, f 340, f 341, f 342, f 343, f 344, f 345, f 346, f 347, f 348, f 349, f 350, f 351, f 352, f 353, f 354, f 355, f 356, f 357, f 358, f 359, f 360, f 361, f 362, f 363, f 364, f 365, f 366, f 367, f 368, f 369, f 370, f 371, f 372, f 373, f 374, f 375, f 376, f 377, f 378, f 379, f 380, f 381, f 382, f 383, f 384, f 385, f 386, f 387, f 388, f 389, f 390, f 391, f 392, f 393, f 394, f 395, f 396, f 397, f 398, f 399, f 400, f 401, f 402, f 403, f 404, f 405, f 406, f 407, f 408, f 409, f 410, f 411, f 412, f 413, f 414, f 415, f 416, f 417, f 418, f 419, f 420, f 421, f 422, f 423, f 424, f 425, f 426, f 427, f 428, f 429, f 430, f 431, f 432, f 433, f 434, f 435, f 436, f 437, f 438, f 439, f 440, f 441, f 442, f 443, f 444, f 445, f 446, f 447, f 448, f 449, f 450, f 451, f 452, f 453, f 454, f 455], []⟩) ?rest ?first
    case rest =>
      rintro _ wd ⟨f, hb, rfl⟩
      go_step
      exact HH.out wd hb f
    case first =>
    intro _ _ _ _
    go_wp2_with fail
    refine (P1.out _ (RA.out.below T.out) T.out.size).mono ?_
    rintro e w1 ⟨rfl, hb⟩
    replace T := Lib.hid (below_on T.out hb)
    clear hb
    go_wp2_with fail
    refine (P2.out _ (RA.out.below T.out) T.out.size).mono ?_
    rintro e w2 ⟨rfl, hb⟩
    replace T := Lib.hid (below_on T.out hb)
    clear hb
    go_wp2_with fail
    refine (P3.out _ (RS.out.below T.out) T.out.size).mono ?_
    rintro e w3 ⟨rfl, hb⟩
    replace T := Lib.hid (below_on T.out hb)
    clear hb
    go_wp2_with fail
    refine (P4.out _ (RR.out.below T.out) T.out.size).mono ?_
    rintro e w4 ⟨rfl, hb⟩
    replace T := Lib.hid (below_on T.out hb)
    clear hb
    go_wp2_with fail
    refine (P5.out _ (RS.out.below T.out) T.out.size).mono ?_
    rintro e w5 ⟨rfl, hb⟩
    replace T := Lib.hid (below_on T.out hb)
    clear hb
    go_wp2_with fail
    refine (P6.out _ (RR.out.below T.out) T.out.size).mono ?_
    rintro e w6 ⟨t, rfl, ho, hb⟩
    replace T := Lib.hid (below_on T.out hb)
    clear hb
    rw [E6.out.1, E6.out.2] at ho
    have RT := Lib.hid (Rd.of_own ho)
    clear ho
    go_wp2_with fail
    refine (qSpots_same t (.slice Aa m ca) m _ zs _ RT.out ((RA.out.below T.out).more T.out.size) (Nat.le_refl _) (by omega)).mono ?_
    rintro e w7 ⟨rfl, hb⟩
    replace T := Lib.hid (below_on T.out hb)
    clear hb
    go_wp2_with fail
    refine (P7.out _ (RS.out.below T.out) T.out.size).mono ?_
    rintro e w8 ⟨rfl, hb⟩
    replace T := Lib.hid (below_on T.out hb)
    clear hb
    have AB := Lib.hid (Blk.new w8 3 #[.int .i64 0, .int .i64 (K / 3), .int .i64 (K / 2), .int .i64 K])
    have T0 := Lib.hid (below_new T.out (.cells #[.int .i64 0, .int .i64 (K / 3), .int .i64 (K / 2), .int .i64 K] 3))
    clear T RT nK nF nM
    go_wp2_with fail
    try simp only [nM2]
    clear nM2
    go_loopw [307] (fun i wr => ∃ k : Nat, k ≤ 4 ∧ i = .int .i64 k ∧ Below W.heap.size W wr ∧ Blk wr w8.heap.size 3 #[.int .i64 0, .int .i64 (K / 3), .int .i64 (K / 2), .int .i64 K]) (fun i _ => 4 - (intOf i).toNat)
    case atStart => exact ⟨0, by omega, rfl, T0.out, AB.out⟩
    case round =>
      clear AB T0
      obtain ⟨k, hk, rfl, hb, hab⟩ := hrel
      by_cases hlt : k < 4
      · have c0 := at4_cell hab k hlt
        obtain ⟨q0, q1⟩ := at4_in K0 k
        obtain ⟨q, hq⟩ : ∃ q, at4 K k = q := ⟨_, rfl⟩
        rw [hq] at c0 q0 q1
        obtain ⟨a1, a2, a3⟩ := AT.out q q0 q1
        obtain ⟨b1, b2, b3⟩ := AS.out q q0 q1
        obtain ⟨d1, d2, d3⟩ := AR.out q q0 q1
        have A1 := AL1.out q
        have A2 := AL2.out q
        have A3 := AL3.out (K - q)
        have A4 := AL4.out q
        rw [a1, a2, a3] at A1 A4
        rw [b1, b2, b3] at A2
        rw [d1, d2, d3] at A3
        obtain ⟨x, hx⟩ : ∃ x, alX m zs q = x := ⟨_, rfl⟩
        obtain ⟨y, hy⟩ : ∃ y, alY m zs q = y := ⟨_, rfl⟩
        rw [hx, hy] at A1 A2 A3 A4
        replace A1 := Lib.hid A1
        replace A2 := Lib.hid A2
        replace A3 := Lib.hid A3
        replace A4 := Lib.hid A4
        have T := Lib.hid hb
        have AB := Lib.hid hab
        have e1 := IntWalk.i64_in (K - q) (by omega)
        have nq := neq_spots_same x y
        have k0 : (0 : Int) ≤ (k : Int) := by omega
        have k1 : (k : Int) < 4 := by omega
        clear hq hx hy a1 a2 a3 b1 b2 b3 d1 d2 d3 hb hab
        go_wp2_with fail
        refine (A1.out _ (RA.out.below T.out) T.out.size).mono ?_
        rintro e v1 ⟨rfl, hb⟩
        replace T := Lib.hid (below_on T.out hb)
        replace AB := Lib.hid (AB.out.on hb)
        clear hb
        clear c0
        replace T := Lib.hid (below_new T.out (.cells #[.int .i64 x, .int .i64 y] 29))
        replace AB := Lib.hid (AB.out.alloc (.cells #[.int .i64 x, .int .i64 y] 29))
        have S0 := Lib.hid (Blk.new v1 29 #[.int .i64 x, .int .i64 y])
        go_wp2_with fail
        refine (A2.out _ (RS.out.below T.out) T.out.size).mono ?_
        rintro e v2 ⟨rfl, hb⟩
        replace T := Lib.hid (below_on T.out hb)
        replace AB := Lib.hid (AB.out.on hb)
        replace S0 := Lib.hid (S0.out.on hb)
        clear hb
        replace T := Lib.hid (below_new T.out (.cells #[.int .i64 x, .int .i64 y] 29))
        replace AB := Lib.hid (AB.out.alloc (.cells #[.int .i64 x, .int .i64 y] 29))
        replace S0 := Lib.hid (S0.out.alloc (.cells #[.int .i64 x, .int .i64 y] 29))
        have S1 := Lib.hid (Blk.new v2 29 #[.int .i64 x, .int .i64 y])
        go_wp2_with fail
        refine (A3.out _ (RR.out.below T.out) T.out.size).mono ?_
        rintro e v3 ⟨rfl, hb⟩
        replace T := Lib.hid (below_on T.out hb)
        replace AB := Lib.hid (AB.out.on hb)
        replace S0 := Lib.hid (S0.out.on hb)
        replace S1 := Lib.hid (S1.out.on hb)
        clear hb
        clear e1
        replace T := Lib.hid (below_new T.out (.cells #[.int .i64 x, .int .i64 y] 29))
        replace AB := Lib.hid (AB.out.alloc (.cells #[.int .i64 x, .int .i64 y] 29))
        replace S0 := Lib.hid (S0.out.alloc (.cells #[.int .i64 x, .int .i64 y] 29))
        replace S1 := Lib.hid (S1.out.alloc (.cells #[.int .i64 x, .int .i64 y] 29))
        have S2 := Lib.hid (Blk.new v3 29 #[.int .i64 x, .int .i64 y])
        go_wp2_with fail
        refine (A4.out _ (RA.out.below T.out) T.out.size).mono ?_
        rintro e v4 ⟨rfl, hb⟩
        replace T := Lib.hid (below_on T.out hb)
        replace AB := Lib.hid (AB.out.on hb)
        replace S0 := Lib.hid (S0.out.on hb)
        replace S1 := Lib.hid (S1.out.on hb)
        replace S2 := Lib.hid (S2.out.on hb)
        clear hb
        replace T := Lib.hid (below_new T.out (.cells #[.int .i64 x, .int .i64 y] 29))
        replace AB := Lib.hid (AB.out.alloc (.cells #[.int .i64 x, .int .i64 y] 29))
        replace S0 := Lib.hid (S0.out.alloc (.cells #[.int .i64 x, .int .i64 y] 29))
        replace S1 := Lib.hid (S1.out.alloc (.cells #[.int .i64 x, .int .i64 y] 29))
        replace S2 := Lib.hid (S2.out.alloc (.cells #[.int .i64 x, .int .i64 y] 29))
        have S3 := Lib.hid (Blk.new v4 29 #[.int .i64 x, .int .i64 y])
        obtain ⟨m0, n0⟩ := S0.out.c2
        obtain ⟨m1, n1⟩ := S1.out.c2
        obtain ⟨m2, n2⟩ := S2.out.c2
        obtain ⟨m3, n3⟩ := S3.out.c2
        go_wp2_with fail
        go_roundw
        case rel => first | exact ⟨k + 1, by omega, by go_num, T.out, AB.out⟩ | ((repeat apply Exists.intro); exact ⟨⟨k + 1, by omega, by go_num, T.out, AB.out⟩, rfl⟩)
        case measure => simp [intOf]; omega
      · obtain rfl : k = 4 := by omega
        have HG := Lib.hid hb
        clear hb hab
        go_wp2_with fail
        refine Met.intro ?_
        go_step
        exact meet_at HG.out (by kernel_rfl)
end Go.Proofs.Ytciolimmfldpbaa
