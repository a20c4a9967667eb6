/- The law of steps from the question on whether the step is allowed. Condition: what both sides have said of it. -/
import Derived.Test.YtcpbcmebfiilmaaStepsD
namespace Go.Proofs.Ytcpbcmebfiilmaa
open Go.RowKit

set_option maxRecDepth 100000 in
set_option maxHeartbeats 4000000 in
theorem steps_c (w W : World) (hB : Below w.heap.size w W) (A1 : Option Addr) (n1 c1 : Nat) (hr : RdB W W.heap.size A1 n1) (hn1 : n1 ≤ 9223372036854775807) (g : Nat) (f x y z u c p q r : Int) (sb sv : Bool) (hv : Blk W g 27 #[.int .i64 x, .int .i64 y, .int .i64 z, .int .i64 u, .int .i64 c]) (hb : saB f x y z u c p q r = sb) (hv1 : saV f x y z u c p q r = sv) (f9 : Nat → Value) :
    Code.wp Try.prog (tailOf 16 stepsBody) (bodyPost Try.prog Try.f3 (fun e w' => e = .returned (.bool true) ∧ Below w.heap.size w w')) ⟨#[f9 0, .slice A1 n1 c1, f9 2, f9 3, f9 4, f9 5, f9 6, f9 7, f9 8, f9 9, f9 10, f9 11, f9 12, f9 13, f9 14, f9 15, f9 16, f9 17, f9 18, f9 19, f9 20, f9 21, f9 22, f9 23, f9 24, f9 25, f9 26, f9 27, f9 28, f9 29, f9 30, f9 31, f9 32, f9 33, f9 34, f9 35, f9 36, .int .i64 f, .pointer (some ⟨g, 0, none⟩), .int .i64 p, .int .i64 q, .int .i64 r, f9 42, .bool sb, .bool sv, f9 45, f9 46, f9 47, f9 48, f9 49, f9 50, f9 51, f9 52, f9 53, f9 54, f9 55, f9 56, f9 57, f9 58, f9 59, f9 60, f9 61, f9 62, f9 63, f9 64, f9 65, f9 66, f9 67, f9 68, f9 69, f9 70, f9 71, f9 72, f9 73, f9 74, f9 75, f9 76, f9 77, f9 78, f9 79, f9 80, f9 81, f9 82, f9 83, f9 84, f9 85, f9 86, f9 87, f9 88, f9 89, f9 90, f9 91, f9 92, f9 93, f9 94, f9 95, f9 96, f9 97, f9 98, f9 99, f9 100, f9 101, f9 102, f9 103, f9 104, f9 105, f9 106, f9 107, f9 108, f9 109, f9 110, f9 111, f9 112, f9 113, f9 114, f9 115, f9 116, f9 117, f9 118, f9 119, f9 120, f9 121, f9 122, f9 123, f9 124, f9 125, f9 126, f9 127, f9 128, f9 129, f9 130, f9 131, f9 132, f9 133, f9 134, f9 135, f9 136, f9 137, f9 138, f9 139, f9 140, f9 141, f9 142, f9 143, f9 144, f9 145, f9 146, f9 147, f9 148, f9 149, f9 150, f9 151, f9 152, f9 153, f9 154, f9 155, f9 156, f9 157, f9 158, f9 159, f9 160, f9 161, f9 162, f9 163, f9 164, f9 165, f9 166, f9 167, f9 168, f9 169, f9 170, f9 171, f9 172, f9 173, f9 174, f9 175, f9 176, f9 177, f9 178, f9 179, f9 180, f9 181, f9 182, f9 183, f9 184, f9 185, f9 186, f9 187, f9 188, f9 189, f9 190, f9 191, f9 192, f9 193, f9 194, f9 195, f9 196, f9 197, f9 198, f9 199, f9 200, f9 201, f9 202, f9 203, f9 204, f9 205, f9 206, f9 207, f9 208, f9 209, f9 210, f9 211, f9 212, f9 213, f9 214, f9 215, f9 216, f9 217, f9 218, f9 219, f9 220, f9 221, f9 222, f9 223, f9 224, f9 225, f9 226, f9 227, f9 228, f9 229, f9 230, f9 231, f9 232, f9 233, f9 234, f9 235, f9 236, f9 237, f9 238, f9 239, f9 240, f9 241, f9 242, f9 243, f9 244, f9 245, f9 246, f9 247, f9 248, f9 249, f9 250, f9 251, f9 252, f9 253, f9 254, f9 255, f9 256, f9 257, f9 258, f9 259, f9 260, f9 261, f9 262, f9 263, f9 264, f9 265, f9 266, f9 267, f9 268, f9 269, f9 270, f9 271, f9 272, f9 273, f9 274, f9 275, f9 276, f9 277, f9 278, f9 279, f9 280, f9 281, f9 282, f9 283, f9 284, f9 285, f9 286, f9 287, f9 288, f9 289, f9 290, f9 291, f9 292, f9 293, f9 294, f9 295, f9 296, f9 297, f9 298, f9 299, f9 300, f9 301, f9 302, f9 303, f9 304, f9 305, f9 306, f9 307, f9 308, f9 309, f9 310, f9 311, f9 312, f9 313, f9 314, f9 315, f9 316, f9 317, f9 318, f9 319, f9 320, f9 321, f9 322, f9 323, f9 324, f9 325, f9 326, f9 327, f9 328, f9 329, f9 330, f9 331, f9 332, f9 333, f9 334, f9 335, f9 336, f9 337, f9 338, f9 339, f9 340, f9 341, f9 342, f9 343, f9 344, f9 345, f9 346, f9 347, f9 348, f9 349, f9 350, f9 351, f9 352, f9 353, f9 354, f9 355, f9 356, f9 357, f9 358, f9 359, f9 360, f9 361, f9 362, f9 363, f9 364, f9 365], []⟩ W := by
  have B0 := Lib.hid hB
  have BW := Lib.hid (Below.refl W.heap.size W)
  have HR := Lib.hid hr
  clear hB hr
  conv => arg 2; whnf
  have SV := Lib.hid hv
  clear hv
  obtain ⟨v0, v1, v2, v3, v4⟩ := SV.out.c5
  cases hsb : saB f x y z u c p q r with
  | false =>
    obtain rfl : sb = false := by rw [← hb, hsb]
    clear hb hv1 hsb
    go_upto_if 298 with (fail)
    go_step
    go_step
    go_step
    go_step
    exact wp_of_fn (by kernel_rfl) (fun f => steps_d w W B0.out A1 n1 c1 HR.out hn1 f)
  | true =>
    obtain rfl : sb = true := by rw [← hb, hsb]
    by_cases hsame : x = z ∧ y = u
    · obtain ⟨rfl, rfl⟩ := hsame
      have nq := neq_same x y
      clear hb hv1 hsb
      go_upto_if 298 with (fail)
      go_step
      go_step
      go_step
      go_step
      exact wp_of_fn (by kernel_rfl) (fun f => steps_d w W B0.out A1 n1 c1 HR.out hn1 f)
    · have nq := neq_other hsame
      have hs5 : (((inB f 0 7 = true ∧ mvB x y z u c = true) ∧ inB p 1 24 = true) ∧ inB q 1 24 = true) ∧ inB r 1 24 = true := by simpa [saB, Bool.and_eq_true] using hsb
      have hd := dirB_yes hs5.1.1.1.2 (show x ≠ z ∨ y ≠ u by omega)
      have hk := sk_yes (f := f) hs5.1.1.1.1 hd.1
      obtain ⟨kn, ekn⟩ : ∃ kn, kindL f (dirL (z - x) (u - y)) = kn := ⟨_, rfl⟩
      have hkc := kindL_cases f (dirL (z - x) (u - y))
      rw [ekn] at hkc hk
      have hsv : sv = wsB x y z u c (pick3 kn p q r) := by rw [← hv1]; exact (sa_yes hsb hsame ekn).2
      have P1 := fun W => StepKind_any f x y z u c W
      have P2 := fun W => specStepKind_any f x y z u c W
      rw [hk.1, hk.2] at P1 P2
      have HS := fun s hs W => WithinStep_yes x y z u c s W hs5.1.1.1.2 hs
      replace P1 := Lib.hid P1
      replace P2 := Lib.hid P2
      replace HS := Lib.hid HS
      have I1 := Lib.hid hs5.1.1.2
      have I2 := Lib.hid hs5.1.2
      have I3 := Lib.hid hs5.2
      clear hb hv1 hsb hs5 hd hk ekn hsame
      go_step
      go_step
      refine wp_cut (fun a' wk => ∃ f : Nat → Value, (Below W.heap.size W wk) ∧ a' = ⟨#[f 0, .slice A1 n1 c1, f 2, f 3, f 4, f 5, f 6, f 7, f 8, f 9, f 10, f 11, f 12, f 13, f 14, f 15, f 16, f 17, f 18, f 19, f 20, f 21, f 22, f 23, f 24, f 25, f 26, f 27, f 28, f 29, f 30, f 31, f 32, f 33, f 34, f 35, f 36, f 37, f 38, f 39, f 40, f 41, f 42, f 43, f 44, f 45, f 46, f 47, f 48, f 49, f 50, f 51, f 52, f 53, f 54, f 55, f 56, f 57, f 58, f 59, f 60, f 61, f 62, f 63, f 64, f 65, f 66, f 67, f 68, f 69, f 70, f 71, f 72, f 73, f 74, f 75, f 76, f 77, f 78, f 79, f 80, f 81, f 82, f 83, f 84, f 85, f 86, f 87, f 88, f 89, f 90, f 91, f 92, f 93, f 94, f 95, f 96, f 97, f 98, f 99, f 100, f 101, f 102, f 103, f 104, f 105, f 106, f 107, f 108, f 109, f 110, f 111, f 112, f 113, f 114, f 115, f 116, f 117, f 118, f 119, f 120, f 121, f 122, f 123, f 124, f 125, f 126, f 127, f 128, f 129, f 130, f 131, f 132, f 133, f 134, f 135, f 136, f 137, f 138, f 139, f 140, f 141, f 142, f 143, f 144, f 145, f 146, f 147, f 148, f 149, f 150, f 151, f 152, f 153, f 154, f 155, f 156, f 157, f 158, f 159, f 160, f 161, f 162, f 163, f 164, f 165, f 166, f 167, f 168, f 169, f 170, f 171, f 172, f 173, f 174, f 175, f 176, f 177, f 178, f 179, f 180, f 181, f 182, f 183, f 184, f 185, f 186, f 187, f 188, f 189, f 190, f 191, f 192, f 193, f 194, f 195, f 196, f 197, f 198, f 199, f 200, f 201, f 202, f 203, f 204, f 205, f 206, f 207, f 208, f 209, f 210, f 211, f 212, f 213, f 214, f 215, f 216, f 217, f 218, f 219, f 220, f 221, f 222, f 223, f 224, f 225, f 226, f 227, f 228, f 229, f 230, f 231, f 232, f 233, f 234, f 235, f 236, f 237, f 238, f 239, f 240, f 241, f 242, f 243, f 244, f 245, f 246, f 247, f 248, f 249, f 250, f 251, f 252, f 253, f 254, f 255, f 256, f 257, f 258, f 259, f 260, f 261, f 262, f 263, f 264, f 265, f 266, f 267, f 268, f 269, f 270, f 271, f 272, f 273, f 274, f 275, f 276, f 277, f 278, f 279, f 280, f 281, f 282, f 283, f 284, f 285, f 286, f 287, f 288, f 289, f 290, f 291, f 292, f 293, f 294, f 295, f 296, f 297, f 298, f 299, f 300, f 301, f 302, f 303, f 304, f 305, f 306, f 307, f 308, f 309, f 310, f 311, f 312, f 313, f 314, f 315, f 316, f 317, f 318, f 319, f 320, f 321, f 322, f 323, f 324, f 325, f 326, f 327, f 328, f 329, f 330, f 331, f 332, f 333, f 334, f 335, f 336, f 337, f 338, f 339, f 340, f 341, f 342, f 343, f 344, f 345, f 346, f 347, f 348, f 349, f 350, f 351, f 352, f 353, f 354, f 355, f 356, f 357, f 358, f 359, f 360, f 361, f 362, f 363, f 364, f 365], []⟩) ?rest ?first
      case rest =>
        rintro _ wc ⟨f, hb, rfl⟩
        go_step
        exact steps_d w wc (below_on B0.out hb) A1 n1 c1 (HR.out.kept hb) hn1 f
      case first =>
      intro _ _ _ _
      go_wp2_with fail
      refine (P1.out _).mono ?_
      rintro e w1 ⟨rfl, hb⟩
      replace BW := Lib.hid (below_on BW.out hb)
      replace SV := Lib.hid (SV.out.on hb)
      clear hb v0 v1 v2 v3 v4
      obtain ⟨v0, v1, v2, v3, v4⟩ := SV.out.c5
      go_wp2_with fail
      refine (P2.out _).mono ?_
      rintro e w2 ⟨rfl, hb⟩
      replace BW := Lib.hid (below_on BW.out hb)
      replace SV := Lib.hid (SV.out.on hb)
      clear hb v0 v1 v2 v3 v4
      obtain ⟨v0, v1, v2, v3, v4⟩ := SV.out.c5
      have nk : (kn != kn) = false := by simp
      rcases hkc with rfl | rfl | rfl
      · have HX := Lib.hid (fun W => HS.out p I1.out W)
        obtain rfl : sv = wsB x y z u c p := hsv
        rw [show pick3 0 p q r = p from rfl]
        obtain ⟨t, et⟩ : ∃ t, wsB x y z u c p = t := ⟨_, rfl⟩
        rw [et] at HX ⊢
        have nt : (t != t) = false := by simp
        have hgl := SV.out.lt
        go_wp2_with fail
        go_region_with (go_at_call 19; refine (HX.out _).mono ?_; rintro e w3 ⟨rfl, hb2⟩)
        all_goals go_wp2_with fail
        all_goals
          refine Met.intro ?_
          go_step
          refine meet_at (below_on ?_ hb2) (by kernel_rfl)
          repeat (first | exact BW.out | refine below_new ?_ _ | refine below_drewN ?_ _ | refine Below.drew ?_)
      · have HX := Lib.hid (fun W => HS.out q I2.out W)
        obtain rfl : sv = wsB x y z u c q := hsv
        rw [show pick3 1 p q r = q from rfl]
        obtain ⟨t, et⟩ : ∃ t, wsB x y z u c q = t := ⟨_, rfl⟩
        rw [et] at HX ⊢
        have nt : (t != t) = false := by simp
        have hgl := SV.out.lt
        go_wp2_with fail
        go_region_with (go_at_call 19; refine (HX.out _).mono ?_; rintro e w3 ⟨rfl, hb2⟩)
        all_goals go_wp2_with fail
        all_goals
          refine Met.intro ?_
          go_step
          refine meet_at (below_on ?_ hb2) (by kernel_rfl)
          repeat (first | exact BW.out | refine below_new ?_ _ | refine below_drewN ?_ _ | refine Below.drew ?_)
      · have HX := Lib.hid (fun W => HS.out r I3.out W)
        obtain rfl : sv = wsB x y z u c r := hsv
        rw [show pick3 2 p q r = r from rfl]
        obtain ⟨t, et⟩ : ∃ t, wsB x y z u c r = t := ⟨_, rfl⟩
        rw [et] at HX ⊢
        have nt : (t != t) = false := by simp
        have hgl := SV.out.lt
        go_wp2_with fail
        go_region_with (go_at_call 19; refine (HX.out _).mono ?_; rintro e w3 ⟨rfl, hb2⟩)
        all_goals go_wp2_with fail
        all_goals
          refine Met.intro ?_
          go_step
          refine meet_at (below_on ?_ hb2) (by kernel_rfl)
          repeat (first | exact BW.out | refine below_new ?_ _ | refine below_drewN ?_ _ | refine Below.drew ?_)
end Go.Proofs.Ytcpbcmebfiilmaa
