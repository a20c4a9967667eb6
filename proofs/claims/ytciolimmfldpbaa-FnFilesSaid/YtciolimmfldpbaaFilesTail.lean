/- The law of files from the squares of the performers on. Condition: what the reference has said of the file. The law of files: each performer stands where the way is at his length, and not farther from the one ahead than the gap. Condition: what the reference has said of the file. The law of files from the question on whether there is one. Condition: what the reference has said of the file. -/
import Derived.Test.YtciolimmfldpbaaCutFn2
import Derived.Test.YtciolimmfldpbaaFilesLaw
import Derived.Test.YtciolimmfldpbaaQSpots2
import Derived.Test.YtciolimmfldpbaaCorners
import Derived.Test.YtciolimmfldpbaaHas
import Derived.Test.YtciolimmfldpbaaLeadersRest
namespace Go.Proofs.Ytciolimmfldpbaa
open Go.RowKit

noncomputable def filesBody : Code := (Try.f4.body).getD .skip
set_option maxRecDepth 100000 in
set_option maxHeartbeats 4000000 in
theorem files_e (w W : World) (hB : Below w.heap.size w W) (fl : Value) (M : Nat) (ys : List Int) (lv : Int) (lb : Bool) (hf : Rd W W.heap.size 2 fl M ys) (hc : Cap fl) (hM : M ≤ 12)
    (hsp : ∀ k, k < M → spotB (X ys k) (Y ys k) = true) (hsq : lb = true → ∀ i j, j < i → i < M → lv ≤ sqAt ys i j) (f : Nat → Value) :
    Code.wp Try.prog (tailOf 18 filesBody) (bodyPost Try.prog Try.f4 (fun e w' => e = .returned (.bool true) ∧ Below w.heap.size w w')) ⟨#[f 0, f 1, f 2, f 3, f 4, f 5, .int .i64 (M : Int), f 7, f 8, f 9, f 10, fl, f 12, f 13, .bool lb, .int .i64 lv, f 16, f 17, f 18, f 19, f 20, f 21, f 22, f 23, f 24, f 25, f 26, f 27, f 28, f 29, f 30, f 31, f 32, f 33, f 34, f 35, f 36, f 37, f 38, f 39, f 40, f 41, f 42, f 43, f 44, f 45, f 46, f 47, f 48, f 49, f 50, f 51, f 52, f 53, f 54, f 55, f 56, f 57, f 58, f 59, f 60, f 61, f 62, f 63, f 64, f 65, f 66, f 67, f 68, f 69, f 70, f 71, f 72, f 73, f 74, f 75, f 76, f 77, f 78, f 79, f 80, f 81, f 82, f 83, f 84, f 85, f 86, f 87, f 88, f 89, f 90, f 91, f 92, f 93, f 94, f 95, f 96, f 97, f 98, f 99, f 100, f 101, f 102, f 103, f 104, f 105, f 106, f 107, f 108, f 109, f 110, f 111, f 112, f 113, f 114, f 115, f 116, f 117, f 118, f 119, f 120, f 121, f 122, f 123, f 124, f 125, f 126, f 127, f 128, f 129, f 130, f 131, f 132, f 133, f 134, f 135, f 136, f 137, f 138, f 139, f 140, f 141, f 142, f 143, f 144, f 145, f 146, f 147, f 148, f 149, f 150, f 151, f 152, f 153, f 154, f 155, f 156, f 157, f 158, f 159, f 160, f 161, f 162, f 163, f 164, f 165, f 166, f 167, f 168, f 169, f 170, f 171, f 172, f 173, f 174, f 175, f 176, f 177, f 178, f 179, f 180, f 181, f 182, f 183, f 184, f 185, f 186, f 187, f 188, f 189, f 190, f 191, f 192, f 193, f 194, f 195, f 196, f 197, f 198, f 199, f 200, f 201, f 202, f 203, f 204, f 205, f 206, f 207, f 208, f 209, f 210, f 211, f 212, f 213, f 214, f 215, f 216, f 217, f 218, f 219, f 220, f 221, f 222, f 223, f 224, f 225, f 226, f 227, f 228, f 229, f 230, f 231, f 232, f 233, f 234, f 235, f 236, f 237, f 238, f 239, f 240, f 241, f 242, f 243, f 244, f 245, f 246, f 247, f 248, f 249, f 250, f 251, f 252, f 253, f 254, f 255, f 256, f 257, f 258, f 259, f 260, f 261, f 262, f 263, f 264, f 265, f 266, f 267, f 268, f 269, f 270, f 271, f 272, f 273, f 274, f 275, f 276, f 277, f 278, f 279, f 280, f 281, f 282, f 283, f 284, f 285, f 286, f 287, f 288, f 289, f 290, f 291, f 292, f 293, f 294, f 295, f 296, f 297, f 298, f 299, f 300, f 301, f 302, f 303, f 304, f 305, f 306, f 307, f 308, f 309, f 310, f 311, f 312, f 313, f 314, f 315, f 316, f 317, f 318, f 319, f 320, f 321, f 322, f 323, f 324, f 325, f 326, f 327, f 328, f 329, f 330, f 331, f 332, f 333, f 334, f 335, f 336, f 337, f 338, f 339, f 340, f 341, f 342, f 343, f 344, f 345, f 346, f 347, f 348, f 349, f 350, f 351, f 352, f 353, f 354, f 355, f 356, f 357, f 358, f 359, f 360, f 361, f 362, f 363, f 364, f 365, f 366, f 367, f 368, f 369, f 370, f 371, f 372, f 373, f 374, f 375, f 376, f 377, f 378, f 379, f 380, f 381, f 382, f 383, f 384, f 385, f 386, f 387, f 388, f 389, f 390, f 391, f 392, f 393, f 394, f 395, f 396, f 397, f 398, f 399, f 400, f 401, f 402, f 403, f 404, f 405, f 406, f 407, f 408, f 409, f 410, f 411, f 412, f 413, f 414, f 415, f 416, f 417, f 418, f 419, f 420, f 421, f 422, f 423, f 424, f 425, f 426, f 427, f 428, f 429, f 430, f 431, f 432, f 433, f 434, f 435, f 436, f 437, f 438, f 439, f 440, f 441, f 442, f 443, f 444, f 445, f 446, f 447, f 448, f 449, f 450, f 451, f 452, f 453, f 454, f 455], []⟩ W := by
  conv => arg 2; whnf
  have hMM : ((M : Int) == (M : Int)) = true := by simp
  obtain ⟨A, c, rfl⟩ := hf.form
  have HB := Lib.hid hB
  clear hB
  cases lb with
  | false =>
    go_wp2_with fail
    go_ret
    exact ⟨rfl, HB.out⟩
  | true =>
    have HF := Lib.hid hf
    have HSP := Lib.hid hsp
    have HSQ := Lib.hid (hsq rfl)
    have hMc : M ≤ c := hc _ _ _ rfl
    clear hf hsp hsq hc
    go_wp2_with fail
    go_loopw [424] (fun i wr => ∃ k : Nat, k ≤ M ∧ i = .int .i64 k ∧ Below W.heap.size W wr) (fun i _ => M - (intOf i).toNat)
    case atStart => exact ⟨0, Nat.zero_le _, rfl, Below.refl _ _⟩
    case round =>
      obtain ⟨k, hk, rfl, hb⟩ := hrel
      by_cases hlt : k < M
      · obtain ⟨wo, rfl⟩ : ∃ wo : World, wo = wr := ⟨_, rfl⟩
        obtain ⟨b, off, rfl, hbB, hcs⟩ := (HF.out.below hb).spot (by omega)
        obtain ⟨c0, c1⟩ := hcs k hlt
        obtain ⟨x, ex⟩ : ∃ x, X ys k = x := ⟨_, rfl⟩
        obtain ⟨y, ey⟩ : ∃ y, Y ys k = y := ⟨_, rfl⟩
        rw [ex] at c0
        rw [ey] at c1
        have k0 : (0 : Int) ≤ (k : Int) := by omega
        have k1 : (k : Int) < (M : Int) := by omega
        have k2 : (k : Int) ≤ (c : Int) := by omega
        have S57 := Lib.hid (Blk.new wo 29 #[.int .i64 x, .int .i64 y])
        have G := Lib.hid (below_new (Below.refl wo.heap.size wo) (.cells #[.int .i64 x, .int .i64 y] 29))
        have HW := Lib.hid hb
        have FACT := Lib.hid (show ∀ j, j < k → spotB x y = true ∧ spotB (X ys j) (Y ys j) = true ∧ lv ≤ sqL x y (X ys j) (Y ys j) ∧ wo.cell? ⟨b, off + j * 2, none⟩ = some (.int .i64 (X ys j)) ∧ wo.cell? ⟨b, off + j * 2 + 1, none⟩ = some (.int .i64 (Y ys j)) from
          fun j hj => ⟨by rw [← ex, ← ey]; exact HSP.out k hlt, HSP.out j (by omega), by rw [← ex, ← ey]; exact HSQ.out k j hj hlt, hcs j (by omega)⟩)
        clear ex ey hb hcs
        go_wp2_with fail
        go_loopw [433] (fun i w2 => ∃ j : Nat, j ≤ k ∧ i = .int .i64 j ∧ Below wo.heap.size wo w2 ∧ Blk w2 wo.heap.size 29 #[.int .i64 x, .int .i64 y]) (fun i _ => k - (intOf i).toNat)
        case atStart => exact ⟨0, Nat.zero_le _, rfl, G.out, S57.out⟩
        case round =>
          clear c0 c1 G S57
          obtain ⟨j, hj, rfl, hb, h57⟩ := hrel
          by_cases hjt : j < k
          · obtain ⟨g1, g2, g3, d0, d1⟩ := FACT.out j hjt
            replace d0 := cell_on hb d0
            replace d1 := cell_on hb d1
            obtain ⟨z, ez⟩ : ∃ x, X ys j = x := ⟨_, rfl⟩
            obtain ⟨u, eu⟩ : ∃ y, Y ys j = y := ⟨_, rfl⟩
            rw [ez, eu] at g2 g3
            rw [ez] at d0
            rw [eu] at d1
            have HS := Lib.hid (fun W => SquareOf_yes x y z u W g1 g2)
            obtain ⟨q, hq⟩ : ∃ q, sqL x y z u = q := ⟨_, rfl⟩
            rw [hq] at HS g3
            have j0 : (0 : Int) ≤ (j : Int) := by omega
            have j1 : (j : Int) < (k : Int) := by omega
            have dq : decide (q < lv) = false := by simp; omega
            obtain ⟨e0, e1⟩ := (h57.alloc (.cells #[.int .i64 z, .int .i64 u] 29)).c2
            obtain ⟨f0, f1⟩ := (Blk.new wr 29 #[.int .i64 z, .int .i64 u]).c2
            have HG := Lib.hid (below_new hb (.cells #[.int .i64 z, .int .i64 u] 29))
            have H57 := Lib.hid (h57.alloc (.cells #[.int .i64 z, .int .i64 u] 29))
            clear g1 g2 g3 ez eu hq hb h57
            go_wp2_with fail
            refine (HS.out _).mono ?_
            rintro e w3 ⟨rfl, hb⟩
            replace HG := Lib.hid (below_on HG.out hb)
            replace H57 := Lib.hid (H57.out.on hb)
            clear hb e0 e1 f0 f1
            go_wp2_with fail
            go_roundw
            case rel => exact ⟨j + 1, by omega, by go_num, HG.out, H57.out⟩
            case measure => simp [intOf]; omega
          · obtain rfl : j = k := by omega
            have HG := Lib.hid (below_on HW.out hb)
            clear hb h57
            go_wp2_with fail
            go_roundw
            case rel => exact ⟨j + 1, by omega, by go_num, HG.out⟩
            case measure => simp [intOf]; omega
      · obtain rfl : k = M := by omega
        have HG := Lib.hid (below_on HB.out hb)
        clear hb
        go_wp2_with fail
        go_ret
        exact ⟨rfl, HG.out⟩
end Go.Proofs.Ytciolimmfldpbaa
namespace Go.Proofs.Ytciolimmfldpbaa
open Go.RowKit

set_option maxRecDepth 100000 in
set_option maxHeartbeats 4000000 in
theorem files_c (w W : World) (hB : Below w.heap.size w W) (l : Value) (n : Nat) (xs : List Int) (hl : Rd W W.heap.size 2 l n xs) (hn : n ≤ 14) (fl : Value) (M : Nat) (g L lv : Int) (lb : Bool) (hw : OnWay n xs M g L)
    (hf : Rd W W.heap.size 2 fl M (flTo n xs g L M)) (hc : Cap fl) (hsq : lb = true → lv = lsOut (flTo n xs g L M) M) (f : Nat → Value) :
    Code.wp Try.prog (tailOf 17 filesBody) (bodyPost Try.prog Try.f4 (fun e w' => e = .returned (.bool true) ∧ Below w.heap.size w w')) ⟨#[f 0, f 1, f 2, f 3, f 4, l, .int .i64 (M : Int), .int .i64 g, .int .i64 L, f 9, f 10, fl, f 12, f 13, .bool lb, .int .i64 lv, f 16, f 17, f 18, f 19, f 20, f 21, f 22, f 23, f 24, f 25, f 26, f 27, f 28, f 29, f 30, f 31, f 32, f 33, f 34, f 35, f 36, f 37, f 38, f 39, f 40, f 41, f 42, f 43, f 44, f 45, f 46, f 47, f 48, f 49, f 50, f 51, f 52, f 53, f 54, f 55, f 56, f 57, f 58, f 59, f 60, f 61, f 62, f 63, f 64, f 65, f 66, f 67, f 68, f 69, f 70, f 71, f 72, f 73, f 74, f 75, f 76, f 77, f 78, f 79, f 80, f 81, f 82, f 83, f 84, f 85, f 86, f 87, f 88, f 89, f 90, f 91, f 92, f 93, f 94, f 95, f 96, f 97, f 98, f 99, f 100, f 101, f 102, f 103, f 104, f 105, f 106, f 107, f 108, f 109, f 110, f 111, f 112, f 113, f 114, f 115, f 116, f 117, f 118, f 119, f 120, f 121, f 122, f 123, f 124, f 125, f 126, f 127, f 128, f 129, f 130, f 131, f 132, f 133, f 134, f 135, f 136, f 137, f 138, f 139, f 140, f 141, f 142, f 143, f 144, f 145, f 146, f 147, f 148, f 149, f 150, f 151, f 152, f 153, f 154, f 155, f 156, f 157, f 158, f 159, f 160, f 161, f 162, f 163, f 164, f 165, f 166, f 167, f 168, f 169, f 170, f 171, f 172, f 173, f 174, f 175, f 176, f 177, f 178, f 179, f 180, f 181, f 182, f 183, f 184, f 185, f 186, f 187, f 188, f 189, f 190, f 191, f 192, f 193, f 194, f 195, f 196, f 197, f 198, f 199, f 200, f 201, f 202, f 203, f 204, f 205, f 206, f 207, f 208, f 209, f 210, f 211, f 212, f 213, f 214, f 215, f 216, f 217, f 218, f 219, f 220, f 221, f 222, f 223, f 224, f 225, f 226, f 227, f 228, f 229, f 230, f 231, f 232, f 233, f 234, f 235, f 236, f 237, f 238, f 239, f 240, f 241, f 242, f 243, f 244, f 245, f 246, f 247, f 248, f 249, f 250, f 251, f 252, f 253, f 254, f 255, f 256, f 257, f 258, f 259, f 260, f 261, f 262, f 263, f 264, f 265, f 266, f 267, f 268, f 269, f 270, f 271, f 272, f 273, f 274, f 275, f 276, f 277, f 278, f 279, f 280, f 281, f 282, f 283, f 284, f 285, f 286, f 287, f 288, f 289, f 290, f 291, f 292, f 293, f 294, f 295, f 296, f 297, f 298, f 299, f 300, f 301, f 302, f 303, f 304, f 305, f 306, f 307, f 308, f 309, f 310, f 311, f 312, f 313, f 314, f 315, f 316, f 317, f 318, f 319, f 320, f 321, f 322, f 323, f 324, f 325, f 326, f 327, f 328, f 329, f 330, f 331, f 332, f 333, f 334, f 335, f 336, f 337, f 338, f 339, f 340, f 341, f 342, f 343, f 344, f 345, f 346, f 347, f 348, f 349, f 350, f 351, f 352, f 353, f 354, f 355, f 356, f 357, f 358, f 359, f 360, f 361, f 362, f 363, f 364, f 365, f 366, f 367, f 368, f 369, f 370, f 371, f 372, f 373, f 374, f 375, f 376, f 377, f 378, f 379, f 380, f 381, f 382, f 383, f 384, f 385, f 386, f 387, f 388, f 389, f 390, f 391, f 392, f 393, f 394, f 395, f 396, f 397, f 398, f 399, f 400, f 401, f 402, f 403, f 404, f 405, f 406, f 407, f 408, f 409, f 410, f 411, f 412, f 413, f 414, f 415, f 416, f 417, f 418, f 419, f 420, f 421, f 422, f 423, f 424, f 425, f 426, f 427, f 428, f 429, f 430, f 431, f 432, f 433, f 434, f 435, f 436, f 437, f 438, f 439, f 440, f 441, f 442, f 443, f 444, f 445, f 446, f 447, f 448, f 449, f 450, f 451, f 452, f 453, f 454, f 455], []⟩ W := by
  conv => arg 2; whnf
  have hM := hw.2.2.2.1
  have hg := hw.2.2.2.2.1
  have hL := hw.2.1
  have hL2 := hw.2.2.1
  have hlen := (lenTo_in (wayB_yes hw.1).2.1 (n - 1) (by have := (wayB_yes hw.1).1; omega)).2
  have hL3 : L ≤ 30000 := by omega
  have HX := Lib.hid hw
  have HL := Lib.hid hl
  have HF := Lib.hid hf
  have HB := Lib.hid hB
  have HC := Lib.hid hc
  have HSQ := Lib.hid hsq
  obtain ⟨A, c, rfl⟩ := hf.form
  clear hl hf hB hc hsq hw hL2 hlen
  go_step
  go_step
  refine wp_cut (fun a' wk => ∃ f : Nat → Value, (Below W.heap.size W wk) ∧ a' = ⟨#[f 0, f 1, f 2, f 3, f 4, f 5, .int .i64 (M : Int), f 7, f 8, f 9, f 10, .slice A M c, f 12, f 13, .bool lb, .int .i64 lv, f 16, f 17, f 18, f 19, f 20, f 21, f 22, f 23, f 24, f 25, f 26, f 27, f 28, f 29, f 30, f 31, f 32, f 33, f 34, f 35, f 36, f 37, f 38, f 39, f 40, f 41, f 42, f 43, f 44, f 45, f 46, f 47, f 48, f 49, f 50, f 51, f 52, f 53, f 54, f 55, f 56, f 57, f 58, f 59, f 60, f 61, f 62, f 63, f 64, f 65, f 66, f 67, f 68, f 69, f 70, f 71, f 72, f 73, f 74, f 75, f 76, f 77, f 78, f 79, f 80, f 81, f 82, f 83, f 84, f 85, f 86, f 87, f 88, f 89, f 90, f 91, f 92, f 93, f 94, f 95, f 96, f 97, f 98, f 99, f 100, f 101, f 102, f 103, f 104, f 105, f 106, f 107, f 108, f 109, f 110, f 111, f 112, f 113, f 114, f 115, f 116, f 117, f 118, f 119, f 120, f 121, f 122, f 123, f 124, f 125, f 126, f 127, f 128, f 129, f 130, f 131, f 132, f 133, f 134, f 135, f 136, f 137, f 138, f 139, f 140, f 141, f 142, f 143, f 144, f 145, f 146, f 147, f 148, f 149, f 150, f 151, f 152, f 153, f 154, f 155, f 156, f 157, f 158, f 159, f 160, f 161, f 162, f 163, f 164, f 165, f 166, f 167, f 168, f 169, f 170, f 171, f 172, f 173, f 174, f 175, f 176, f 177, f 178, f 179, f 180, f 181, f 182, f 183, f 184, f 185, f 186, f 187, f 188, f 189, f 190, f 191, f 192, f 193, f 194, f 195, f 196, f 197, f 198, f 199, f 200, f 201, f 202, f 203, f 204, f 205, f 206, f 207, f 208, f 209, f 210, f 211, f 212, f 213, f 214, f 215, f 216, f 217, f 218, f 219, f 220, f 221, f 222, f 223, f 224, f 225, f 226, f 227, f 228, f 229, f 230, f 231, f 232, f 233, f 234, f 235, f 236, f 237, f 238, f 239, f 240, f 241, f 242, f 243, f 244, f 245, f 246, f 247, f 248, f 249, f 250, f 251, f 252, f 253, f 254, f 255, f 256, f 257, f 258, f 259, f 260, f 261, f 262, f 263, f 264, f 265, f 266, f 267, f 268, f 269, f 270, f 271, f 272, f 273, f 274, f 275, f 276, f 277, f 278, f 279, f 280, f 281, f 282, f 283, f 284, f 285, f 286, f 287, f 288, f 289, f 290, f 291, f 292, f 293, f 294, f 295, f 296, f 297, f 298, f 299, f 300, f 301, f 302, f 303, f 304, f 305, f 306, f 307, f 308, f 309, f 310, f 311, f 312, f 313, f 314, f 315, f 316, f 317, f 318, f 319, f 320, f 321, f 322, f 323, f 324, f 325, f 326, f 327, f 328, f 329, f 330, f 331, f 332, f 333, f 334, f 335, f 336, f 337, f 338, f 339, f 340, f 341, f 342, f 343, f 344, f 345, f 346, f 347, f 348, f 349, f 350, f 351, f 352, f 353, f 354, f 355, f 356, f 357, f 358, f 359, f 360, f 361, f 362, f 363, f 364, f 365, f 366, f 367, f 368, f 369, f 370, f 371, f 372, f 373, f 374, f 375, f 376, f 377, f 378, f 379, f 380, f 381, f 382, f 383, f 384, f 385, f 386, f 387, f 388, f 389, f 390, f 391, f 392, f 393, f 394, f 395, f 396, f 397, f 398, f 399, f 400, f 401, f 402, f 403, f 404, f 405, f 406, f 407, f 408, f 409, f 410, f 411, f 412, f 413, f 414, f 415, f 416, f 417, f 418, f 419, f 420, f 421, f 422, f 423, f 424, f 425, f 426, f 427, f 428, f 429, f 430, f 431, f 432, f 433, f 434, f 435, f 436, f 437, f 438, f 439, f 440, f 441, f 442, f 443, f 444, f 445, f 446, f 447, f 448, f 449, f 450, f 451, f 452, f 453, f 454, f 455], []⟩) ?rest ?first
  case rest =>
    rintro _ wc ⟨f, hb, rfl⟩
    go_step
    exact files_e w wc (below_on HB.out hb) _ M _ lv lb ((HF.out.below hb).more hb.size) HC.out hM.2 (fun k hk => (file_at HX.out hk).2.2.2) (fun hl i j hj hi => by rw [HSQ.out hl]; exact file_least HX.out i j hj hi) f
  case first =>
  intro _ _ _ _
  go_wp2_with fail
  go_loopw [371] (fun i wr => ∃ k : Nat, k ≤ M ∧ i = .int .i64 k ∧ Below W.heap.size W wr) (fun i _ => M - (intOf i).toNat)
  case atStart => exact ⟨0, Nat.zero_le _, rfl, Below.refl _ _⟩
  case round =>
    obtain ⟨k, hk, rfl, hb⟩ := hrel
    by_cases hlt : k < M
    · obtain ⟨b, off, rfl, hbB, hcs⟩ := (HF.out.below hb).spot (by omega)
      obtain ⟨c0, c1⟩ := hcs k hlt
      obtain ⟨fx, fy, fs, fo⟩ := file_at HX.out hlt
      obtain ⟨q0, q1⟩ := gap_at HX.out hlt
      obtain ⟨x, ex⟩ : ∃ x, X (flTo n xs g L M) k = x := ⟨_, rfl⟩
      obtain ⟨y, ey⟩ : ∃ y, Y (flTo n xs g L M) k = y := ⟨_, rfl⟩
      have e1 := IntWalk.i64_in ((k : Int) * g) (by omega)
      have e2 := IntWalk.i64_in (L - (k : Int) * g) (by omega)
      have hS := fun (W' : World) (h1 : Rd W' W.heap.size 2 l n xs) (h2 : W.heap.size ≤ W'.heap.size) => SpotAlong_any l n W.heap.size xs (L - (k : Int) * g) W' h1 h2 (by omega)
      rw [← fx, ← fy, fs, ex, ey] at hS
      rw [ex] at c0 fx
      rw [ey] at c1 fy
      have HS := Lib.hid hS
      have k0 : (0 : Int) ≤ (k : Int) := by omega
      have k1 : (k : Int) < (M : Int) := by omega
      have HCS := Lib.hid hcs
      have EXY := Lib.hid (⟨ex, ey⟩ : _ ∧ _)
      have FO := Lib.hid fo
      have T := Lib.hid (below_new hb (.cells #[.int .i64 x, .int .i64 y] 29))
      have TB := Lib.hid (below_new (Below.refl wr.heap.size wr) (.cells #[.int .i64 x, .int .i64 y] 29))
      have S53 := Lib.hid (Blk.new wr 29 #[.int .i64 x, .int .i64 y])
      have nq := neq_spots_same x y
      clear hS fx fy fs ex ey hb hcs fo
      go_wp2_with fail
      refine (HS.out _ (HL.out.below T.out) T.out.size).mono ?_
      rintro e w2 ⟨rfl, hb⟩
      replace T := Lib.hid (below_on T.out hb)
      replace TB := Lib.hid (below_on TB.out hb)
      replace S53 := Lib.hid (S53.out.on hb)
      clear hb e1 e2 c0 c1 q0 q1
      have S54 := Lib.hid (Blk.new w2 29 #[.int .i64 x, .int .i64 y])
      replace T := Lib.hid (below_new T.out (.cells #[.int .i64 x, .int .i64 y] 29))
      replace TB := Lib.hid (below_new TB.out (.cells #[.int .i64 x, .int .i64 y] 29))
      replace S53 := Lib.hid (S53.out.alloc (.cells #[.int .i64 x, .int .i64 y] 29))
      obtain ⟨a0, a1⟩ := S53.out.c2
      obtain ⟨b0, b1⟩ := S54.out.c2
      by_cases hk0 : k = 0
      · subst hk0
        clear HCS EXY FO HS S53 S54
        go_wp2_with fail
        go_quiet (fail)
        go_wp2_with fail
        go_roundw
        case rel => exact ⟨0 + 1, by omega, by go_num, below_drewN T.out _⟩
        case measure => simp [intOf]; omega
      · obtain ⟨j, rfl⟩ : ∃ j, k = j + 1 := ⟨k - 1, by omega⟩
        obtain ⟨d0, d1⟩ := HCS.out j (by omega)
        replace d0 := cell_on TB.out d0
        replace d1 := cell_on TB.out d1
        have gap := file_gap HX.out hlt
        have fo2 := (file_at HX.out (show j < M by omega)).2.2.2
        rw [EXY.out.1, EXY.out.2] at gap
        obtain ⟨z, ez⟩ : ∃ x, X (flTo n xs g L M) j = x := ⟨_, rfl⟩
        obtain ⟨u, eu⟩ : ∃ y, Y (flTo n xs g L M) j = y := ⟨_, rfl⟩
        rw [ez] at d0 gap fo2
        rw [eu] at d1 gap fo2
        have s1 := spotB_yes fo2
        have s2 := spotB_yes (show spotB x y = true by have := FO.out; rwa [EXY.out.1, EXY.out.2] at this)
        have g1 := fun W => qAbs_any (x - z) W (by omega) (by omega)
        have g2 := fun W => qAbs_any (y - u) W (by omega) (by omega)
        have e1 := IntWalk.i64_in (x - z) (by omega)
        have e2 := IntWalk.i64_in (y - u) (by omega)
        have r1 := ab_le (x := x - z) (m := 2000) (by omega) (by omega)
        have r2 := ab_le (x := y - u) (m := 2000) (by omega) (by omega)
        obtain ⟨p, ep⟩ : ∃ p, ab (x - z) = p := ⟨_, rfl⟩
        obtain ⟨q, eq⟩ : ∃ q, ab (y - u) = q := ⟨_, rfl⟩
        rw [ep] at g1 gap r1
        rw [eq] at g2 gap r2
        have e3 := IntWalk.i64_in (p + q) (by omega)
        have e4 := IntWalk.i64_in (((j + 1 : Nat) : Int) - 1) (by omega)
        have dg : decide (g < p + q) = false := by simp; omega
        have i0 : (0 : Int) ≤ ((j + 1 : Nat) : Int) - 1 := by omega
        have i1 : ((j + 1 : Nat) : Int) - 1 < (M : Int) := by omega
        have i2 : (((j + 1 : Nat) : Int) - 1).toNat = j := by omega
        have i3 : decide ((0 : Int) < ((j + 1 : Nat) : Int)) = true := decide_eq_true (by omega)
        have H1 := Lib.hid g1
        have H2 := Lib.hid g2
        clear HCS EXY FO HS S53 S54 g1 g2 ep eq ez eu gap fo2 s1 s2 r1 r2
        go_wp2_with fail
        go_quiet (first | (go_at_call_of 20 (x - z); exact Calls.quiet_of_same (flip_same (H1.out _))) | (go_at_call_of 20 (y - u); exact Calls.quiet_of_same (flip_same (H2.out _))))
        go_wp2_with fail
        go_roundw
        case rel => exact ⟨j + 1 + 1, by omega, by go_num, below_drewN T.out _⟩
        case measure => simp [intOf]; omega
    · obtain rfl : k = M := by omega
      have HG := Lib.hid hb
      clear hb
      go_wp2_with fail
      refine Met.intro ?_
      go_step
      exact meet_at HG.out (by kernel_rfl)
end Go.Proofs.Ytciolimmfldpbaa
namespace Go.Proofs.Ytciolimmfldpbaa
open Go.RowKit

set_option maxRecDepth 100000 in
set_option maxHeartbeats 4000000 in
theorem files_d (w W : World) (hB : Below w.heap.size w W) (l : Value) (n : Nat) (xs : List Int) (hl : Rd W W.heap.size 2 l n xs) (hn : n ≤ 14) (fl : Value) (rn g L lv : Int) (fb lb : Bool) (hfb : fiB n xs rn g L = fb)
    (hf : Rd W W.heap.size 2 fl (fiN n xs rn g L) (fiL n xs rn g L)) (hc : Cap fl) (hlb : liB n xs rn g L = lb) (hlv : liV n xs rn g L = lv) (f : Nat → Value) :
    Code.wp Try.prog (tailOf 16 filesBody) (bodyPost Try.prog Try.f4 (fun e w' => e = .returned (.bool true) ∧ Below w.heap.size w w')) ⟨#[f 0, f 1, f 2, f 3, f 4, l, .int .i64 rn, .int .i64 g, .int .i64 L, f 9, .bool fb, fl, f 12, f 13, .bool lb, .int .i64 lv, f 16, f 17, f 18, f 19, f 20, f 21, f 22, f 23, f 24, f 25, f 26, f 27, f 28, f 29, f 30, f 31, f 32, f 33, f 34, f 35, f 36, f 37, f 38, f 39, f 40, f 41, f 42, f 43, f 44, f 45, f 46, f 47, f 48, f 49, f 50, f 51, f 52, f 53, f 54, f 55, f 56, f 57, f 58, f 59, f 60, f 61, f 62, f 63, f 64, f 65, f 66, f 67, f 68, f 69, f 70, f 71, f 72, f 73, f 74, f 75, f 76, f 77, f 78, f 79, f 80, f 81, f 82, f 83, f 84, f 85, f 86, f 87, f 88, f 89, f 90, f 91, f 92, f 93, f 94, f 95, f 96, f 97, f 98, f 99, f 100, f 101, f 102, f 103, f 104, f 105, f 106, f 107, f 108, f 109, f 110, f 111, f 112, f 113, f 114, f 115, f 116, f 117, f 118, f 119, f 120, f 121, f 122, f 123, f 124, f 125, f 126, f 127, f 128, f 129, f 130, f 131, f 132, f 133, f 134, f 135, f 136, f 137, f 138, f 139, f 140, f 141, f 142, f 143, f 144, f 145, f 146, f 147, f 148, f 149, f 150, f 151, f 152, f 153, f 154, f 155, f 156, f 157, f 158, f 159, f 160, f 161, f 162, f 163, f 164, f 165, f 166, f 167, f 168, f 169, f 170, f 171, f 172, f 173, f 174, f 175, f 176, f 177, f 178, f 179, f 180, f 181, f 182, f 183, f 184, f 185, f 186, f 187, f 188, f 189, f 190, f 191, f 192, f 193, f 194, f 195, f 196, f 197, f 198, f 199, f 200, f 201, f 202, f 203, f 204, f 205, f 206, f 207, f 208, f 209, f 210, f 211, f 212, f 213, f 214, f 215, f 216, f 217, f 218, f 219, f 220, f 221, f 222, f 223, f 224, f 225, f 226, f 227, f 228, f 229, f 230, f 231, f 232, f 233, f 234, f 235, f 236, f 237, f 238, f 239, f 240, f 241, f 242, f 243, f 244, f 245, f 246, f 247, f 248, f 249, f 250, f 251, f 252, f 253, f 254, f 255, f 256, f 257, f 258, f 259, f 260, f 261, f 262, f 263, f 264, f 265, f 266, f 267, f 268, f 269, f 270, f 271, f 272, f 273, f 274, f 275, f 276, f 277, f 278, f 279, f 280, f 281, f 282, f 283, f 284, f 285, f 286, f 287, f 288, f 289, f 290, f 291, f 292, f 293, f 294, f 295, f 296, f 297, f 298, f 299, f 300, f 301, f 302, f 303, f 304, f 305, f 306, f 307, f 308, f 309, f 310, f 311, f 312, f 313, f 314, f 315, f 316, f 317, f 318, f 319, f 320, f 321, f 322, f 323, f 324, f 325, f 326, f 327, f 328, f 329, f 330, f 331, f 332, f 333, f 334, f 335, f 336, f 337, f 338, f 339, f 340, f 341, f 342, f 343, f 344, f 345, f 346, f 347, f 348, f 349, f 350, f 351, f 352, f 353, f 354, f 355, f 356, f 357, f 358, f 359, f 360, f 361, f 362, f 363, f 364, f 365, f 366, f 367, f 368, f 369, f 370, f 371, f 372, f 373, f 374, f 375, f 376, f 377, f 378, f 379, f 380, f 381, f 382, f 383, f 384, f 385, f 386, f 387, f 388, f 389, f 390, f 391, f 392, f 393, f 394, f 395, f 396, f 397, f 398, f 399, f 400, f 401, f 402, f 403, f 404, f 405, f 406, f 407, f 408, f 409, f 410, f 411, f 412, f 413, f 414, f 415, f 416, f 417, f 418, f 419, f 420, f 421, f 422, f 423, f 424, f 425, f 426, f 427, f 428, f 429, f 430, f 431, f 432, f 433, f 434, f 435, f 436, f 437, f 438, f 439, f 440, f 441, f 442, f 443, f 444, f 445, f 446, f 447, f 448, f 449, f 450, f 451, f 452, f 453, f 454, f 455], []⟩ W := by
  conv => arg 2; whnf
  have HB := Lib.hid hB
  clear hB
  cases fb with
  | false =>
    clear hf hc hlb hlv hl hfb
    go_wp2_with fail
    go_ret
    exact ⟨rfl, HB.out⟩
  | true =>
    obtain ⟨M, rfl, hw, e1, e2⟩ := fi_way hfb
    have hsq : lb = true → lv = lsOut (flTo n xs g L M) M := fun h => by rw [← hlv]; exact li_law hfb rfl e1 e2 (hlb.trans h)
    rw [e1, e2] at hf
    have HH := Lib.hid (fun f => files_c w W HB.out l n xs hl hn fl M g L lv lb hw hf hc hsq f)
    clear hl hf hc hlb hlv hsq hw e1 e2 hfb
    go_upto_if 368 with (fail)
    go_step
    go_step
    go_step
    go_step
    exact wp_of_fn (by kernel_rfl) HH.out
end Go.Proofs.Ytciolimmfldpbaa
