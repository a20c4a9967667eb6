/- The law of efforts from the question on the longest carry on. Conditions: what both sides have said. -/
import Derived.Test.YtamehlafmfmgmaaEffC
namespace Go.Proofs.Ytamehlafmfmgmaa
open Go.RowKit

/-- The list that is asked for the longest carry. -/
structure EffO (W : World) (ua : Value) (r : Nat) (zs : List Int) : Prop where
  l : Rd W W.heap.size 4 ua r zs
  c : Cap ua
  m41 : r ≤ 41
theorem EffO.keep {W W' : World} {ua : Value} {r : Nat} {zs : List Int} (h : EffO W ua r zs) (hb : Below W.heap.size W W') : EffO W' ua r zs :=
  ⟨(h.l.below hb).more hb.size, h.c, h.m41⟩
set_option maxRecDepth 100000 in
set_option maxHeartbeats 4000000 in
theorem eff_d (w W : World) (hB : Below w.heap.size w W) (vl vs vp : Value) (n : Nat) (xs : List Int) (i t q : Int) (sb : Bool) (hA : EffA W vl vs vp n xs i t q) (hsb : spB n xs i t q = sb) (eb fb : Bool) (ev a b c d fv : Int) (he : eb = true → 0 ≤ ev) (hf : fb = true → ∃ z, FewLaw a b c d fv z) (ub vt : Value) (m : Nat) (ys : List Int) (lim : Int) (tb : Bool) (hT : EffT W ub vt m ys lim) (htb : tlB m ys lim = tb) (ua : Value) (r : Nat) (zs : List Int) (who lf lt : Int) (ob : Bool) (hO : EffO W ua r zs) (hob : ob = true → LongLaw r zs who lf lt) (f : Nat → Value) :
    Code.wp Try.prog (tailOf 18 effBody) (bodyPost Try.prog Try.f4 (fun e w' => e = .returned (.bool true) ∧ Below w.heap.size w w')) ⟨#[f 0, f 1, f 2, f 3, f 4, vl, .int .i64 i, .int .i64 t, .int .i64 q, vs, .bool sb, vp, f 12, ua, .int .i64 who, f 15, f 16, .bool ob, .int .i64 lf, .int .i64 lt, f 20, ub, .int .i64 lim, f 23, .bool tb, vt, f 26, f 27, f 28, f 29, f 30, .bool eb, .int .i64 ev, f 33, .int .i64 a, .int .i64 b, .int .i64 c, .int .i64 d, f 38, .bool fb, .int .i64 fv, f 41, f 42, f 43, f 44, f 45, f 46, f 47, f 48, f 49, f 50, f 51, f 52, f 53, f 54, f 55, f 56, f 57, f 58, f 59, f 60, f 61, f 62, f 63, f 64, f 65, f 66, f 67, f 68, f 69, f 70, f 71, f 72, f 73, f 74, f 75, f 76, f 77, f 78, f 79, f 80, f 81, f 82, f 83, f 84, f 85, f 86, f 87, f 88, f 89, f 90, f 91, f 92, f 93, f 94, f 95, f 96, f 97, f 98, f 99, f 100, f 101, f 102, f 103, f 104, f 105, f 106, f 107, f 108, f 109, f 110, f 111, f 112, f 113, f 114, f 115, f 116, f 117, f 118, f 119, f 120, f 121, f 122, f 123, f 124, f 125, f 126, f 127, f 128, f 129, f 130, f 131, f 132, f 133, f 134, f 135, f 136, f 137, f 138, f 139, f 140, f 141, f 142, f 143, f 144, f 145, f 146, f 147, f 148, f 149, f 150, f 151, f 152, f 153, f 154, f 155, f 156, f 157, f 158, f 159, f 160, f 161, f 162, f 163, f 164, f 165, f 166, f 167, f 168, f 169, f 170, f 171, f 172, f 173, f 174, f 175, f 176, f 177, f 178, f 179, f 180, f 181, f 182, f 183, f 184, f 185, f 186, f 187, f 188, f 189, f 190, f 191, f 192, f 193, f 194, f 195, f 196, f 197, f 198, f 199, f 200, f 201, f 202, f 203, f 204, f 205, f 206, f 207, f 208, f 209, f 210, f 211, f 212, f 213, f 214, f 215, f 216, f 217, f 218, f 219, f 220, f 221, f 222, f 223, f 224, f 225, f 226, f 227, f 228, f 229, f 230, f 231, f 232, f 233, f 234, f 235, f 236, f 237, f 238, f 239, f 240, f 241, f 242, f 243, f 244, f 245, f 246, f 247, f 248, f 249, f 250, f 251, f 252, f 253, f 254, f 255, f 256, f 257, f 258, f 259, f 260, f 261, f 262, f 263, f 264, f 265, f 266, f 267, f 268, f 269, f 270, f 271, f 272, f 273, f 274, f 275, f 276, f 277, f 278, f 279, f 280, f 281, f 282, f 283, f 284, f 285, f 286, f 287, f 288, f 289, f 290, f 291, f 292, f 293, f 294, f 295, f 296, f 297, f 298, f 299, f 300, f 301, f 302, f 303, f 304, f 305, f 306, f 307, f 308, f 309, f 310, f 311, f 312, f 313, f 314, f 315, f 316, f 317, f 318, f 319, f 320, f 321, f 322, f 323, f 324, f 325, f 326, f 327, f 328, f 329, f 330, f 331, f 332, f 333, f 334, f 335, f 336, f 337, f 338, f 339, f 340, f 341, f 342, f 343, f 344, f 345, f 346, f 347, f 348, f 349, f 350, f 351, f 352, f 353, f 354, f 355, f 356, f 357, f 358, f 359, f 360, f 361, f 362, f 363, f 364, f 365, f 366, f 367, f 368, f 369, f 370, f 371, f 372, f 373, f 374, f 375, f 376, f 377, f 378, f 379, f 380, f 381, f 382, f 383, f 384, f 385, f 386, f 387, f 388, f 389, f 390, f 391, f 392, f 393, f 394, f 395, f 396, f 397], []⟩ W := by
  have B0 := Lib.hid hB
  have BW := Lib.hid (Below.refl W.heap.size W)
  clear hB
  conv => arg 2; whnf
  have EA := Lib.hid hA
  have HS := Lib.hid hsb
  have HE := Lib.hid he
  have HF := Lib.hid hf
  have ET := Lib.hid hT
  have HT := Lib.hid htb
  have EO := Lib.hid hO
  clear hA hsb he hf hT htb hO
  cases ob with
  | false =>
    clear hob
    go_upto_if 224 with (fail)
    go_step
    go_step
    go_step
    go_step
    exact wp_of_fn (by kernel_rfl) (fun f => eff_c w W B0.out vl vs vp n xs i t q sb EA.out HS.out eb fb ev a b c d fv HE.out HF.out ub vt m ys lim tb ET.out HT.out f)
  | true =>
    obtain ⟨⟨l0, l1, l2⟩, yes, no⟩ := hob rfl
    have HY := Lib.hid yes
    have HN := Lib.hid no
    have h41 := EO.out.m41
    have PL := Lib.hid (fun (c : Int) (B : Nat) (W' : World) (h1 : Rd W' B 4 ua r zs) (h2 : B ≤ W'.heap.size) => LoadAt_any ua r B zs who c W' EO.out.c h1 h2 (by omega))
    clear yes no hob h41
    go_step
    go_step
    refine wp_cut (fun a' wk => ∃ f : Nat → Value, (Below W.heap.size W wk) ∧ a' = ⟨#[f 0, f 1, f 2, f 3, f 4, vl, .int .i64 i, .int .i64 t, .int .i64 q, vs, .bool sb, vp, f 12, f 13, f 14, f 15, f 16, f 17, f 18, f 19, f 20, ub, .int .i64 lim, f 23, .bool tb, vt, f 26, f 27, f 28, f 29, f 30, .bool eb, .int .i64 ev, f 33, .int .i64 a, .int .i64 b, .int .i64 c, .int .i64 d, f 38, .bool fb, .int .i64 fv, f 41, f 42, f 43, f 44, f 45, f 46, f 47, f 48, f 49, f 50, f 51, f 52, f 53, f 54, f 55, f 56, f 57, f 58, f 59, f 60, f 61, f 62, f 63, f 64, f 65, f 66, f 67, f 68, f 69, f 70, f 71, f 72, f 73, f 74, f 75, f 76, f 77, f 78, f 79, f 80, f 81, f 82, f 83, f 84, f 85, f 86, f 87, f 88, f 89, f 90, f 91, f 92, f 93, f 94, f 95, f 96, f 97, f 98, f 99, f 100, f 101, f 102, f 103, f 104, f 105, f 106, f 107, f 108, f 109, f 110, f 111, f 112, f 113, f 114, f 115, f 116, f 117, f 118, f 119, f 120, f 121, f 122, f 123, f 124, f 125, f 126, f 127, f 128, f 129, f 130, f 131, f 132, f 133, f 134, f 135, f 136, f 137, f 138, f 139, f 140, f 141, f 142, f 143, f 144, f 145, f 146, f 147, f 148, f 149, f 150, f 151, f 152, f 153, f 154, f 155, f 156, f 157, f 158, f 159, f 160, f 161, f 162, f 163, f 164, f 165, f 166, f 167, f 168, f 169, f 170, f 171, f 172, f 173, f 174, f 175, f 176, f 177, f 178, f 179, f 180, f 181, f 182, f 183, f 184, f 185, f 186, f 187, f 188, f 189, f 190, f 191, f 192, f 193, f 194, f 195, f 196, f 197, f 198, f 199, f 200, f 201, f 202, f 203, f 204, f 205, f 206, f 207, f 208, f 209, f 210, f 211, f 212, f 213, f 214, f 215, f 216, f 217, f 218, f 219, f 220, f 221, f 222, f 223, f 224, f 225, f 226, f 227, f 228, f 229, f 230, f 231, f 232, f 233, f 234, f 235, f 236, f 237, f 238, f 239, f 240, f 241, f 242, f 243, f 244, f 245, f 246, f 247, f 248, f 249, f 250, f 251, f 252, f 253, f 254, f 255, f 256, f 257, f 258, f 259, f 260, f 261, f 262, f 263, f 264, f 265, f 266, f 267, f 268, f 269, f 270, f 271, f 272, f 273, f 274, f 275, f 276, f 277, f 278, f 279, f 280, f 281, f 282, f 283, f 284, f 285, f 286, f 287, f 288, f 289, f 290, f 291, f 292, f 293, f 294, f 295, f 296, f 297, f 298, f 299, f 300, f 301, f 302, f 303, f 304, f 305, f 306, f 307, f 308, f 309, f 310, f 311, f 312, f 313, f 314, f 315, f 316, f 317, f 318, f 319, f 320, f 321, f 322, f 323, f 324, f 325, f 326, f 327, f 328, f 329, f 330, f 331, f 332, f 333, f 334, f 335, f 336, f 337, f 338, f 339, f 340, f 341, f 342, f 343, f 344, f 345, f 346, f 347, f 348, f 349, f 350, f 351, f 352, f 353, f 354, f 355, f 356, f 357, f 358, f 359, f 360, f 361, f 362, f 363, f 364, f 365, f 366, f 367, f 368, f 369, f 370, f 371, f 372, f 373, f 374, f 375, f 376, f 377, f 378, f 379, f 380, f 381, f 382, f 383, f 384, f 385, f 386, f 387, f 388, f 389, f 390, f 391, f 392, f 393, f 394, f 395, f 396, f 397], []⟩) ?rest ?first
    case rest =>
      rintro _ wc ⟨f, hb, rfl⟩
      go_step
      exact eff_c w wc (below_on B0.out hb) vl vs vp n xs i t q sb (EA.out.keep hb) HS.out eb fb ev a b c d fv HE.out HF.out ub vt m ys lim tb (ET.out.keep hb) HT.out f
    case first =>
    intro _ _ _ _
    clear EA HS HE HF ET HT
    go_wp2_with fail
    go_loopw [42] (fun i wr => ∃ k : Int, lf ≤ k ∧ k ≤ lt ∧ i = .int .i64 k ∧ Below W.heap.size W wr) (fun i _ => (lt - intOf i).toNat)
    case atStart => exact ⟨lf, by omega, by omega, rfl, BW.out⟩
    case round =>
      clear BW
      obtain ⟨k, hk1, hk, rfl, hb⟩ := hrel
      have BW := Lib.hid hb
      clear hb
      have Q := PL.out k
      obtain ⟨x, ex⟩ : ∃ o, ldV r zs who k = o := ⟨_, rfl⟩
      rw [ex] at Q
      clear ex
      by_cases hlt : k < lt
      · rw [HY.out k hk1 hlt] at Q
        replace Q := Lib.hid Q
        have dl : decide (k < lt) = true := by simpa using hlt
        have e1 := IntWalk.i64_in (k + 1) (by omega)
        go_wp2_with fail
        refine (Q.out _ _ (EO.out.l.below BW.out) BW.out.size).mono ?_
        rintro e w1 ⟨rfl, hb⟩
        replace BW := Lib.hid (below_on BW.out hb)
        clear hb
        go_wp2_with fail
        go_roundw
        case rel => exact ⟨k + 1, by omega, by omega, by go_num, BW.out⟩
        case measure => simp [intOf]; omega
      · obtain rfl : k = lt := by omega
        have dl : decide (k < k) = false := by simp
        by_cases hk9 : k < 1000
        · rw [HN.out hk9] at Q
          replace Q := Lib.hid Q
          have d9 : decide (k < 1000) = true := by simpa using hk9
          go_wp2_with fail
          refine (Q.out _ _ (EO.out.l.below BW.out) BW.out.size).mono ?_
          rintro e w1 ⟨rfl, hb⟩
          replace BW := Lib.hid (below_on BW.out hb)
          clear hb
          go_wp2_with fail
          refine Met.intro ?_
          go_step
          exact meet_at BW.out (by kernel_rfl)
        · have d9 : decide (k < 1000) = false := by simpa using hk9
          go_wp2_with fail
          refine Met.intro ?_
          go_step
          exact meet_at BW.out (by kernel_rfl)
end Go.Proofs.Ytamehlafmfmgmaa
