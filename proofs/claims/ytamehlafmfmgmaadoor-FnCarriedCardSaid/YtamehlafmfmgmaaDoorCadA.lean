/- The law of carried loads from its last loop on. Conditions: the list is valid, and what was summed up so far. -/
import Derived.Test.YtamehlafmfmgmaaDoorCutFn2
import Derived.Test.YtamehlafmfmgmaaDoorCarLaw
import Derived.BigQuiet
namespace Go.Proofs.YtamehlafmfmgmaaDoor
open Go.RowKit

noncomputable def cadBody : Code := (Tryd.f4.body).getD .skip
set_option maxRecDepth 100000 in
set_option maxHeartbeats 4000000 in
theorem cad_a (w W : World) (hB : Below w.heap.size w W) (vl : Value) (n : Nat) (xs : List Int) (q a b sm : Int) (hl : Rd W W.heap.size 4 vl n xs) (hg : GoodC n xs) (hab : 0 ≤ a ∧ a ≤ b ∧ b ≤ 1000) (hs : 0 ≤ sm ∧ sm + ovTo xs q a b n = b - a) (f : Nat → Value) :
    Code.wp Tryd.prog (tailOf 25 cadBody) (bodyPost Tryd.prog Tryd.f4 (fun e w' => e = .returned (.bool true) ∧ Below w.heap.size w w')) ⟨#[f 0, f 1, f 2, f 3, f 4, vl, .int .i64 q, .int .i64 a, .int .i64 b, f 9, f 10, f 11, f 12, f 13, f 14, f 15, f 16, f 17, f 18, f 19, f 20, f 21, f 22, f 23, f 24, f 25, f 26, f 27, f 28, f 29, f 30, f 31, f 32, f 33, f 34, f 35, f 36, f 37, f 38, f 39, f 40, f 41, f 42, f 43, f 44, f 45, f 46, f 47, f 48, f 49, f 50, f 51, f 52, .int .i64 sm, f 54, f 55, f 56, f 57, f 58, f 59, f 60, f 61, f 62, f 63, f 64, f 65, f 66, f 67, f 68, f 69, f 70, f 71, f 72, f 73, f 74, f 75, f 76, f 77, f 78, f 79, f 80, f 81, f 82, f 83, f 84, f 85, f 86, f 87, f 88, f 89, f 90, f 91, f 92, f 93, f 94, f 95, f 96, f 97, f 98, f 99, f 100, f 101, f 102, f 103, f 104, f 105, f 106, f 107, f 108, f 109, f 110, f 111, f 112, f 113, f 114, f 115, f 116, f 117, f 118, f 119, f 120, f 121, f 122, f 123, f 124, f 125, f 126, f 127, f 128, f 129, f 130, f 131, f 132, f 133, f 134, f 135, f 136, f 137, f 138, f 139, f 140, f 141, f 142, f 143, f 144, f 145, f 146, f 147, f 148, f 149, f 150, f 151, f 152, f 153, f 154, f 155, f 156, f 157, f 158, f 159, f 160, f 161, f 162, f 163, f 164, f 165, f 166, f 167, f 168, f 169, f 170, f 171, f 172, f 173, f 174, f 175, f 176, f 177, f 178, f 179, f 180, f 181, f 182, f 183, f 184, f 185, f 186, f 187, f 188, f 189, f 190, f 191, f 192, f 193, f 194, f 195, f 196, f 197, f 198, f 199, f 200, f 201, f 202, f 203, f 204, f 205, f 206, f 207, f 208, f 209, f 210, f 211, f 212, f 213, f 214, f 215, f 216, f 217, f 218, f 219, f 220, f 221, f 222, f 223, f 224, f 225, f 226, f 227, f 228, f 229, f 230, f 231, f 232, f 233, f 234, f 235, f 236, f 237, f 238, f 239, f 240, f 241, f 242, f 243, f 244, f 245, f 246, f 247, f 248, f 249, f 250, f 251, f 252, f 253, f 254, f 255, f 256, f 257, f 258, f 259, f 260, f 261, f 262, f 263, f 264, f 265, f 266, f 267, f 268, f 269, f 270, f 271, f 272, f 273, f 274, f 275, f 276, f 277, f 278, f 279, f 280, f 281, f 282, f 283, f 284, f 285, f 286, f 287, f 288, f 289, f 290, f 291, f 292, f 293, f 294, f 295, f 296, f 297, f 298, f 299, f 300, f 301, f 302, f 303, f 304, f 305, f 306, f 307, f 308, f 309, f 310, f 311, f 312, f 313, f 314, f 315, f 316, f 317, f 318, f 319, f 320, f 321, f 322, f 323, f 324, f 325, f 326, f 327, f 328, f 329, f 330, f 331, f 332, f 333, f 334, f 335, f 336, f 337, f 338, f 339, f 340, f 341, f 342, f 343, f 344, f 345, f 346, f 347, f 348, f 349, f 350, f 351, f 352, f 353, f 354, f 355, f 356, f 357, f 358, f 359, f 360, f 361, f 362, f 363, f 364, f 365, f 366, f 367, f 368, f 369, f 370, f 371, f 372, f 373, f 374, f 375, f 376, f 377, f 378, f 379, f 380, f 381, f 382, f 383, f 384, f 385, f 386, f 387, f 388, f 389, f 390, f 391, f 392, f 393, f 394, f 395, f 396, f 397, f 398, f 399, f 400, f 401, f 402, f 403, f 404, f 405, f 406, f 407, f 408, f 409, f 410, f 411, f 412, f 413, f 414, f 415, f 416, f 417, f 418, f 419, f 420], []⟩ W := by
  have B0 := Lib.hid hB
  have BW := Lib.hid (Below.refl W.heap.size W)
  clear hB
  conv => arg 2; whnf
  have HL := Lib.hid hl
  have HG := Lib.hid hg
  have h40 := hg.len
  obtain ⟨A, c, rfl⟩ := hl.form4
  have hov := fun k (hk : k ≤ n) => ov_in xs q a b n k hk
  have HV := Lib.hid hov
  obtain ⟨s0, s1⟩ := hs
  obtain ⟨a0, a1, b1⟩ := hab
  clear hl hg hov
  have e9 := IntWalk.i64_in (b - a) (by omega)
  go_wp2_with fail
  go_loopw [53, 387] (fun u i wr => ∃ k : Nat, k ≤ n ∧ i = .int .i64 k ∧ u = .int .i64 (sm + ovTo xs q a b k) ∧ Below w.heap.size w wr ∧ Below W.heap.size W wr) (fun _ i _ => n - (intOf i).toNat)
  case atStart => exact ⟨0, by omega, rfl, by simp [ovTo], B0.out, BW.out⟩
  case round =>
    clear B0 BW
    obtain ⟨k, hk, rfl, rfl, hb0, hbw⟩ := hrel
    have B0 := Lib.hid hb0
    have BW := Lib.hid hbw
    clear hb0 hbw
    by_cases hlt : k < n
    · obtain ⟨bb, off, rfl, hbB, hc⟩ := HL.out.carry (by omega)
      obtain ⟨c0, c1, c2, c3⟩ := hc k hlt
      replace c0 := (BW.out.cell hbB).trans c0
      replace c1 := (BW.out.cell hbB).trans c1
      replace c2 := (BW.out.cell hbB).trans c2
      replace c3 := (BW.out.cell hbB).trans c3
      obtain ⟨-, -, g1, g2, g3⟩ := good_in HG.out hlt
      have ho := ov_other (xs := xs) (q := q) (a := a) (b := b) (k := k)
      have hy := fun s e => ov_yes (xs := xs) (q := q) (a := a) (b := b) (k := k) (s := s) (e := e)
      have hn := fun s e => ov_none (xs := xs) (q := q) (a := a) (b := b) (k := k) (s := s) (e := e)
      have v0 := HV.out k (by omega)
      have v1 := HV.out (k + 1) (by omega)
      obtain ⟨P0, eP⟩ : ∃ q, cP xs k = q := ⟨_, rfl⟩
      obtain ⟨L0, eL⟩ : ∃ q, cL xs k = q := ⟨_, rfl⟩
      obtain ⟨F0, eF⟩ : ∃ q, cF xs k = q := ⟨_, rfl⟩
      obtain ⟨T0, eT⟩ : ∃ q, cT xs k = q := ⟨_, rfl⟩
      rw [eP] at c0
      rw [eL] at c1 ho hy hn
      rw [eF] at c2 g1 g2 hy hn
      rw [eT] at c3 g2 g3 hy hn
      obtain ⟨o, eo⟩ : ∃ o, ovTo xs q a b k = o := ⟨_, rfl⟩
      rw [eo] at ho hy hn v0 ⊢
      have i0 : (0 : Int) ≤ (k : Int) := by omega
      have i1 : (k : Int) < (n : Int) := by omega
      have SX := Lib.hid (Blk.new wr 50 #[.int .i64 P0, .int .i64 L0, .int .i64 F0, .int .i64 T0])
      have hbx := Lib.hid (below_new B0.out (.cells #[.int .i64 P0, .int .i64 L0, .int .i64 F0, .int .i64 T0] 50))
      have hbwx := Lib.hid (below_new BW.out (.cells #[.int .i64 P0, .int .i64 L0, .int .i64 F0, .int .i64 T0] 50))
      obtain ⟨x0, x1, x2, x3⟩ := SX.out.c4
      clear eP eL eF eT eo hc
      by_cases hq : L0 = q
      · replace hy := fun s e => hy s e hq
        replace hn := fun s e => hn s e hq
        clear ho
        subst hq
        have dq : (L0 == L0) = true := by simp
        have hsw : ∃ s, max F0 a = s := ⟨_, rfl⟩
        obtain ⟨S, eS⟩ := hsw
        have hew : ∃ s, min T0 b = s := ⟨_, rfl⟩
        obtain ⟨E, eE⟩ := hew
        have hY := hy S E eS eE
        have hN := hn S E eS eE
        clear hy hn
        have dF : decide (F0 < a) = decide (S = a ∧ F0 < a) := by congr 1; apply propext; omega
        by_cases h1 : F0 < a
        · obtain rfl : S = a := by omega
          by_cases h2 : b < T0
          · obtain rfl : E = b := by omega
            by_cases h3 : S < E
            · have HO := Lib.hid (hY h3)
              have u1 := IntWalk.i64_in (E - S) (by omega)
              have u2 := IntWalk.i64_in (sm + o + (E - S)) (by have := hY h3; omega)
              clear hY hN dF
              go_wp2_with fail
              go_quiet (fail)
              go_wp2_with fail
              go_roundw
              case rel => exact ⟨k + 1, by omega, by go_num, by rw [HO.out, Int.add_assoc], below_drewN hbx.out _, below_drewN hbwx.out _⟩
              case measure => simp [intOf]; omega
            · have HO := Lib.hid (hN h3)
              clear hY hN dF
              go_wp2_with fail
              go_quiet (fail)
              go_wp2_with fail
              go_roundw
              case rel => exact ⟨k + 1, by omega, by go_num, by rw [HO.out], below_drewN hbx.out _, below_drewN hbwx.out _⟩
              case measure => simp [intOf]; omega
          · obtain rfl : E = T0 := by omega
            by_cases h3 : S < E
            · have HO := Lib.hid (hY h3)
              have u1 := IntWalk.i64_in (E - S) (by omega)
              have u2 := IntWalk.i64_in (sm + o + (E - S)) (by have := hY h3; omega)
              clear hY hN dF
              go_wp2_with fail
              go_quiet (fail)
              go_wp2_with fail
              go_roundw
              case rel => exact ⟨k + 1, by omega, by go_num, by rw [HO.out, Int.add_assoc], below_drewN hbx.out _, below_drewN hbwx.out _⟩
              case measure => simp [intOf]; omega
            · have HO := Lib.hid (hN h3)
              clear hY hN dF
              go_wp2_with fail
              go_quiet (fail)
              go_wp2_with fail
              go_roundw
              case rel => exact ⟨k + 1, by omega, by go_num, by rw [HO.out], below_drewN hbx.out _, below_drewN hbwx.out _⟩
              case measure => simp [intOf]; omega
        · obtain rfl : S = F0 := by omega
          by_cases h2 : b < T0
          · obtain rfl : E = b := by omega
            by_cases h3 : S < E
            · have HO := Lib.hid (hY h3)
              have u1 := IntWalk.i64_in (E - S) (by omega)
              have u2 := IntWalk.i64_in (sm + o + (E - S)) (by have := hY h3; omega)
              clear hY hN dF
              go_wp2_with fail
              go_quiet (fail)
              go_wp2_with fail
              go_roundw
              case rel => exact ⟨k + 1, by omega, by go_num, by rw [HO.out, Int.add_assoc], below_drewN hbx.out _, below_drewN hbwx.out _⟩
              case measure => simp [intOf]; omega
            · have HO := Lib.hid (hN h3)
              clear hY hN dF
              go_wp2_with fail
              go_quiet (fail)
              go_wp2_with fail
              go_roundw
              case rel => exact ⟨k + 1, by omega, by go_num, by rw [HO.out], below_drewN hbx.out _, below_drewN hbwx.out _⟩
              case measure => simp [intOf]; omega
          · obtain rfl : E = T0 := by omega
            by_cases h3 : S < E
            · have HO := Lib.hid (hY h3)
              have u1 := IntWalk.i64_in (E - S) (by omega)
              have u2 := IntWalk.i64_in (sm + o + (E - S)) (by have := hY h3; omega)
              clear hY hN dF
              go_wp2_with fail
              go_quiet (fail)
              go_wp2_with fail
              go_roundw
              case rel => exact ⟨k + 1, by omega, by go_num, by rw [HO.out, Int.add_assoc], below_drewN hbx.out _, below_drewN hbwx.out _⟩
              case measure => simp [intOf]; omega
            · omega
      · have dq : (L0 == q) = false := by simpa using hq
        have HO := Lib.hid (ho hq)
        clear hy hn ho
        go_wp2_with fail
        go_roundw
        case rel => exact ⟨k + 1, by omega, by go_num, by rw [HO.out], hbx.out, hbwx.out⟩
        case measure => simp [intOf]; omega
    · obtain rfl : k = n := by omega
      have hfin : (sm + ovTo xs q a b k == b - a) = true := by simp; omega
      go_wp2_with fail
      go_ret
      exact ⟨rfl, B0.out⟩
end Go.Proofs.YtamehlafmfmgmaaDoor
