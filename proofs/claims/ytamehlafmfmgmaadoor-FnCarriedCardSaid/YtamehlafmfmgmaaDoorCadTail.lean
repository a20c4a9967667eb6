/- The law of carried loads from the question on the ranges on. Conditions: what both sides have said of them. The law of carried loads from the hand-overs on. Conditions: what both sides have said. The law of carried loads from the question on who carries what is carried on. Conditions: what both sides have said. The law of carried loads from the question on what is carried on. Conditions: what both sides have said. -/
import Derived.Test.YtamehlafmfmgmaaDoorCadA
import Derived.Test.YtamehlafmfmgmaaDoorDropped
import Derived.Test.YtamehlafmfmgmaaDoorQRows
import Derived.Deep.RegionHeld3
import Derived.Test.YtamehlafmfmgmaaDoorTake
import Derived.Test.YtamehlafmfmgmaaDoorHandSpec
namespace Go.Proofs.YtamehlafmfmgmaaDoor
open Go.RowKit

/-- The list, and the rows that both sides have found. -/
structure CadD (W : World) (vl vd : Value) (n lo : Nat) (gs : List Nat) (xs : List Int) (q a b : Int) : Prop where
  l : Rd W W.heap.size 4 vl n xs
  c : Cap vl
  n41 : n ≤ 41
  d : Rows W lo vd (ddN n xs q a b) gs (ddL n xs q a b)
theorem CadD.keep {W W' : World} {vl vd : Value} {n lo : Nat} {gs : List Nat} {xs : List Int} {q a b : Int} (h : CadD W vl vd n lo gs xs q a b) (hb : Below W.heap.size W W') : CadD W' vl vd n lo gs xs q a b :=
  ⟨(h.l.below hb).more hb.size, h.c, h.n41, h.d.below hb (Nat.le_refl _)⟩
set_option maxRecDepth 100000 in
set_option maxHeartbeats 4000000 in
theorem cad_b (w W : World) (hB : Below w.heap.size w W) (vl vd : Value) (n lo : Nat) (gs : List Nat) (xs : List Int) (q a b : Int) (ob : Bool) (hD : CadD W vl vd n lo gs xs q a b) (hob : ddB n xs q a b = ob) (f : Nat → Value) :
    Code.wp Tryd.prog (tailOf 21 cadBody) (bodyPost Tryd.prog Tryd.f4 (fun e w' => e = .returned (.bool true) ∧ Below w.heap.size w w')) ⟨#[f 0, f 1, f 2, f 3, f 4, vl, .int .i64 q, .int .i64 a, .int .i64 b, f 9, .bool ob, vd, f 12, f 13, f 14, f 15, f 16, f 17, f 18, f 19, f 20, f 21, f 22, f 23, f 24, f 25, f 26, f 27, f 28, f 29, f 30, f 31, f 32, f 33, f 34, f 35, f 36, f 37, f 38, f 39, f 40, f 41, f 42, f 43, f 44, f 45, f 46, f 47, f 48, f 49, f 50, f 51, f 52, f 53, f 54, f 55, f 56, f 57, f 58, f 59, f 60, f 61, f 62, f 63, f 64, f 65, f 66, f 67, f 68, f 69, f 70, f 71, f 72, f 73, f 74, f 75, f 76, f 77, f 78, f 79, f 80, f 81, f 82, f 83, f 84, f 85, f 86, f 87, f 88, f 89, f 90, f 91, f 92, f 93, f 94, f 95, f 96, f 97, f 98, f 99, f 100, f 101, f 102, f 103, f 104, f 105, f 106, f 107, f 108, f 109, f 110, f 111, f 112, f 113, f 114, f 115, f 116, f 117, f 118, f 119, f 120, f 121, f 122, f 123, f 124, f 125, f 126, f 127, f 128, f 129, f 130, f 131, f 132, f 133, f 134, f 135, f 136, f 137, f 138, f 139, f 140, f 141, f 142, f 143, f 144, f 145, f 146, f 147, f 148, f 149, f 150, f 151, f 152, f 153, f 154, f 155, f 156, f 157, f 158, f 159, f 160, f 161, f 162, f 163, f 164, f 165, f 166, f 167, f 168, f 169, f 170, f 171, f 172, f 173, f 174, f 175, f 176, f 177, f 178, f 179, f 180, f 181, f 182, f 183, f 184, f 185, f 186, f 187, f 188, f 189, f 190, f 191, f 192, f 193, f 194, f 195, f 196, f 197, f 198, f 199, f 200, f 201, f 202, f 203, f 204, f 205, f 206, f 207, f 208, f 209, f 210, f 211, f 212, f 213, f 214, f 215, f 216, f 217, f 218, f 219, f 220, f 221, f 222, f 223, f 224, f 225, f 226, f 227, f 228, f 229, f 230, f 231, f 232, f 233, f 234, f 235, f 236, f 237, f 238, f 239, f 240, f 241, f 242, f 243, f 244, f 245, f 246, f 247, f 248, f 249, f 250, f 251, f 252, f 253, f 254, f 255, f 256, f 257, f 258, f 259, f 260, f 261, f 262, f 263, f 264, f 265, f 266, f 267, f 268, f 269, f 270, f 271, f 272, f 273, f 274, f 275, f 276, f 277, f 278, f 279, f 280, f 281, f 282, f 283, f 284, f 285, f 286, f 287, f 288, f 289, f 290, f 291, f 292, f 293, f 294, f 295, f 296, f 297, f 298, f 299, f 300, f 301, f 302, f 303, f 304, f 305, f 306, f 307, f 308, f 309, f 310, f 311, f 312, f 313, f 314, f 315, f 316, f 317, f 318, f 319, f 320, f 321, f 322, f 323, f 324, f 325, f 326, f 327, f 328, f 329, f 330, f 331, f 332, f 333, f 334, f 335, f 336, f 337, f 338, f 339, f 340, f 341, f 342, f 343, f 344, f 345, f 346, f 347, f 348, f 349, f 350, f 351, f 352, f 353, f 354, f 355, f 356, f 357, f 358, f 359, f 360, f 361, f 362, f 363, f 364, f 365, f 366, f 367, f 368, f 369, f 370, f 371, f 372, f 373, f 374, f 375, f 376, f 377, f 378, f 379, f 380, f 381, f 382, f 383, f 384, f 385, f 386, f 387, f 388, f 389, f 390, f 391, f 392, f 393, f 394, f 395, f 396, f 397, f 398, f 399, f 400, f 401, f 402, f 403, f 404, f 405, f 406, f 407, f 408, f 409, f 410, f 411, f 412, f 413, f 414, f 415, f 416, f 417, f 418, f 419, f 420], []⟩ W := by
  have B0 := Lib.hid hB
  have BW := Lib.hid (Below.refl W.heap.size W)
  clear hB
  conv => arg 2; whnf
  have ED := Lib.hid hD
  clear hD
  cases ob with
  | false =>
    clear hob
    go_wp2_with fail
    go_ret
    exact ⟨rfl, B0.out⟩
  | true =>
    obtain ⟨hg, hq, a0, a1, b1⟩ := dd_in hob
    have hn41 := ED.out.n41
    obtain ⟨-, eL, eN⟩ := dd_yes hob
    have hrows := ED.out.d
    have hcp := ED.out.c
    have HL := Lib.hid ED.out.l
    rw [eN, eL] at hrows
    have hdl := drop_law (q := q) hg a1
    have PC := Lib.hid (fun (t : Int) (h : crB n xs q t = false) (B : Nat) (W' : World) (h1 : Rd W' B 4 vl n xs) (h2 : B ≤ W'.heap.size) => (by have := CarrierAt_any vl n B xs q t W' hcp h1 h2 (by omega); rw [h, (cr_no h).2] at this; exact this : Calls Tryd.prog 14 #[vl, .int .i64 q, .int .i64 t] W' fun e w' => e = .returned (.tuple #[.int .i64 0, .bool false]) ∧ Below W'.heap.size W' w'))
    obtain ⟨l, el⟩ : ∃ l, rI (ownB n xs q) a b = l := ⟨_, rfl⟩
    rw [el] at hrows hdl
    have HD := Lib.hid hdl
    have HS := Lib.hid (fun k hk => sum_in hdl k hk)
    have HA := Lib.hid (fun k hk => last_lt hdl (k := k) hk)
    have hfin := Lib.hid hdl.sum
    have HG := Lib.hid hg
    obtain ⟨A, c, rfl⟩ := hrows.form
    have HR := Lib.hid hrows
    have hlen : (l.length : Int) ≤ 1000 := by have := rI_len (ownB n xs q) a1; rw [el] at this; omega
    obtain ⟨N, eNl⟩ : ∃ N, l.length = N := ⟨_, rfl⟩
    have ENL := Lib.hid eNl
    rw [eNl]
    rw [eNl] at hlen HR HS HA hfin
    have e0 := IntWalk.i64_in (a - 1) (by omega)
    clear hob eN eL hrows hcp ED hdl hg el eNl
    go_wp2_with fail
    go_loopw [52, 53, 320] (fun u s i wr => ∃ k : Nat, k ≤ N ∧ i = .int .i64 k ∧ u = .int .i64 (lastTo a l k) ∧ s = .int .i64 (sumTo l k) ∧ Below w.heap.size w wr ∧ Below W.heap.size W wr) (fun _ _ i _ => N - (intOf i).toNat)
    case atStart => exact ⟨0, by omega, rfl, rfl, rfl, B0.out, BW.out⟩
    case round =>
      clear B0 BW
      obtain ⟨k, hk, rfl, rfl, rfl, hb0, hbw⟩ := hrel
      have B0 := Lib.hid hb0
      have BW := Lib.hid hbw
      clear hb0 hbw
      by_cases hlt : k < N
      · obtain ⟨bb, cp, g, r, e1, cb, hgg, hrr, -, hkk, -⟩ := HR.out.at hlt
        simp only [Value.slice.injEq, true_and] at e1
        obtain ⟨rfl, rfl⟩ := e1
        have er := prs_at hrr
        have hkl : k < l.length := by rw [ENL.out]; exact hlt
        obtain ⟨x0, x1, x2⟩ := HD.out.each k hkl
        have n1 := HD.out.no1 k hkl
        have n2 := HD.out.no2 k hkl
        have hla := HA.out k hlt
        have hs0 := HS.out k (by omega)
        have hs1 := HS.out (k + 1) (by omega)
        have hsn : sumTo l (k + 1) = sumTo l k + (ry l k - rx l k) := rfl
        have hln : lastTo a l (k + 1) = ry l k := rfl
        rw [hsn] at hs1
        obtain ⟨x, ex⟩ : ∃ x, rx l k = x := ⟨_, rfl⟩
        obtain ⟨y, ey⟩ : ∃ x, ry l k = x := ⟨_, rfl⟩
        obtain ⟨la, ela⟩ : ∃ x, lastTo a l k = x := ⟨_, rfl⟩
        obtain ⟨sm, esm⟩ : ∃ x, sumTo l k = x := ⟨_, rfl⟩
        rw [ex] at x0 x1 n1 hla hs1 hsn
        rw [ey] at x1 x2 n2 hs1 hsn hln
        rw [ela] at hla ⊢
        rw [esm] at hs0 hs1 hsn ⊢
        rw [ex, ey] at er
        subst er
        replace cb := cell_on BW.out cb
        unfold rowV at cb
        have hBk := Lib.hid (hkk.on BW.out)
        obtain ⟨y0, y1⟩ := hBk.out.c2
        simp only [List.length_cons, List.length_nil] at cb
        have PX := Lib.hid (PC.out x n1)
        have PY := Lib.hid (PC.out (y - 1) n2)
        have HSN := Lib.hid hsn
        have HLN := Lib.hid hln
        have j0 : (0 : Int) ≤ (k : Int) := by omega
        have j1 : (k : Int) < (N : Int) := by omega
        have d1 : decide (x ≤ la) = false := by simp; omega
        have d2 : decide (y ≤ x) = false := by simp; omega
        have d3 : decide (b < y) = false := by simp; omega
        have u1 := IntWalk.i64_in (y - x) (by omega)
        have u2 := IntWalk.i64_in (sm + (y - x)) (by omega)
        have u3 := IntWalk.i64_in (y - 1) (by omega)
        clear hgg hrr hkk ex ey ela esm hsn hln hkl n1 n2
        go_wp2_with fail
        go_quiet (fail)
        go_wp2_with fail
        go_quiet (fail)
        go_wp2_with fail
        obtain ⟨gl, egl⟩ : ∃ g, wr.heap.size = g := ⟨_, rfl⟩
        have EGL := Lib.hid egl
        refine wp_region_held_drew (S := fun W => W.cell? ⟨g, 0, none⟩ = some (.int .i64 x) ∧ W.cell? ⟨g, 1, none⟩ = some (.int .i64 y)) (by kernel_rfl) ⟨y0, y1⟩ (fun hHeld => ?_)
        refine take_at (i := 0) (oi := _) 362 (v := .slice (some ⟨g, 0, none⟩) 2 2) rfl rfl (by kernel_rfl) (by kernel_rfl) (by kernel_rfl) (fun _ _ _ h => h) (Or.inl ⟨by rfl, ?_⟩) hHeld ?_
        · (intro w hSw; (try dsimp only at hSw); go_split_ands; go_simp)
        simp only [List.setIfInBounds_toArray, List.set_cons_zero, List.set_cons_succ]
        refine take_at (i := 1) (oi := _) 363 (v := .pointer (some ⟨g, 0, none⟩)) rfl rfl (by kernel_rfl) (by kernel_rfl) (by kernel_rfl) (fun _ _ _ h => h) (Or.inl ⟨by rfl, ?_⟩) hHeld ?_
        · (intro w hSw; (try dsimp only at hSw); go_split_ands; go_simp)
        simp only [List.setIfInBounds_toArray, List.set_cons_zero, List.set_cons_succ]
        refine take_at (i := 2) (oi := _) 364 (v := .int .i64 x) rfl rfl (by kernel_rfl) (by kernel_rfl) (by kernel_rfl) (fun _ _ _ h => h) (Or.inl ⟨by rfl, ?_⟩) hHeld ?_
        · (intro w hSw; (try dsimp only at hSw); go_split_ands; go_simp)
        simp only [List.setIfInBounds_toArray, List.set_cons_zero, List.set_cons_succ]
        refine take_at (i := 3) (oi := _) 365 (v := .slice (some ⟨g, 0, none⟩) 2 2) rfl rfl (by kernel_rfl) (by kernel_rfl) (by kernel_rfl) (fun _ _ _ h => h) (Or.inl ⟨by rfl, ?_⟩) hHeld ?_
        · (intro w hSw; (try dsimp only at hSw); go_split_ands; go_simp)
        simp only [List.setIfInBounds_toArray, List.set_cons_zero, List.set_cons_succ]
        refine take_at (i := 4) (oi := _) 366 (v := .pointer (some ⟨g, 1, none⟩)) rfl rfl (by kernel_rfl) (by kernel_rfl) (by kernel_rfl) (fun _ _ _ h => h) (Or.inl ⟨by rfl, ?_⟩) hHeld ?_
        · (intro w hSw; (try dsimp only at hSw); go_split_ands; go_simp)
        simp only [List.setIfInBounds_toArray, List.set_cons_zero, List.set_cons_succ]
        refine take_at (i := 5) (oi := _) 367 (v := .int .i64 y) rfl rfl (by kernel_rfl) (by kernel_rfl) (by kernel_rfl) (fun _ _ _ h => h) (Or.inl ⟨by rfl, ?_⟩) hHeld ?_
        · (intro w hSw; (try dsimp only at hSw); go_split_ands; go_simp)
        simp only [List.setIfInBounds_toArray, List.set_cons_zero, List.set_cons_succ]
        refine take_at (i := 6) (oi := _) 368 (v := .int .i64 (y - 1)) rfl rfl (by kernel_rfl) (by kernel_rfl) (by kernel_rfl) (fun _ _ _ h => h) (Or.inl ⟨by rfl, ?_⟩) hHeld ?_
        · (intro w hSw; (try dsimp only at hSw); go_split_ands; go_simp)
        simp only [List.setIfInBounds_toArray, List.set_cons_zero, List.set_cons_succ]
        refine take_at (i := 9) (oi := _) 371 (v := .int .i64 0) rfl rfl (by kernel_rfl) (by kernel_rfl) (by kernel_rfl) (fun _ _ _ h => h) (Or.inl ⟨by rfl, ?_⟩) hHeld ?_
        · (intro w hSw; (try dsimp only at hSw); go_split_ands; go_simp)
        simp only [List.setIfInBounds_toArray, List.set_cons_zero, List.set_cons_succ]
        refine wpAnyH_ready (rs := [7]) (by kernel_rfl) (by simp) ?_
        refine AllReadyH.cons (o := _) rfl (fun K9 hK => ?_) AllReadyH.nil
        go_simp
        refine hK.out _ _ ⟨cell_new y0 _, cell_new y1 _⟩ (fun hHeld => ?_)
        clear hK K9
        try simp only [Act.put, List.setIfInBounds_toArray, List.set_cons_zero, List.set_cons_succ]
        refine take_at (i := 8) (oi := _) 370 (v := .int .i64 2) rfl rfl (by kernel_rfl) (by kernel_rfl) (by kernel_rfl) (fun _ _ _ h => h) (Or.inl ⟨by rfl, ?_⟩) hHeld ?_
        · (intro w hSw; (try dsimp only at hSw); go_split_ands; go_simp)
        simp only [List.setIfInBounds_toArray, List.set_cons_zero, List.set_cons_succ]
        refine wpAnyH_done (by kernel_rfl) ?_ _
        go_wp2_with fail
        go_loopw [371] (fun i wi => ∃ m : Nat, m ≤ 2 ∧ i = .int .i64 m ∧ Below w.heap.size w wi ∧ Below W.heap.size W wi ∧ Blk wi gl 3 #[.int .i64 x, .int .i64 (y - 1)]) (fun i _ => 2 - (intOf i).toNat)
        case atStart => exact ⟨0, by omega, rfl, below_new (below_drewN B0.out _) _, below_new (below_drewN BW.out _) _, by rw [← EGL.out]; exact Blk.new (wr.drewN _) _ _⟩
        case round =>
          clear B0 BW y0 y1 hBk cb hHeld egl
          obtain ⟨m, hm, rfl, hb0, hbw, hsl⟩ := hrel
          have B0 := Lib.hid hb0
          have BW := Lib.hid hbw
          obtain ⟨z0, z1⟩ := hsl.c2
          have SL := Lib.hid hsl
          clear hb0 hbw hsl
          by_cases hm2 : m < 2
          · have hcases : m = 0 ∨ m = 1 := by omega
            clear hm hm2
            rcases hcases with rfl | rfl
            · go_wp2_with fail
              refine (PX.out _ _ (HL.out.below BW.out) BW.out.size).mono ?_
              rintro e w2 ⟨rfl, hb⟩
              replace B0 := Lib.hid (below_on B0.out hb)
              replace BW := Lib.hid (below_on BW.out hb)
              replace SL := Lib.hid (SL.out.on hb)
              clear hb z0 z1
              go_wp2_with fail
              go_roundw
              case rel => exact ⟨1, by omega, by go_num, B0.out, BW.out, SL.out⟩
              case measure => simp [intOf]
            · go_wp2_with fail
              refine (PY.out _ _ (HL.out.below BW.out) BW.out.size).mono ?_
              rintro e w2 ⟨rfl, hb⟩
              replace B0 := Lib.hid (below_on B0.out hb)
              replace BW := Lib.hid (below_on BW.out hb)
              replace SL := Lib.hid (SL.out.on hb)
              clear hb z0 z1
              go_wp2_with fail
              go_roundw
              case rel => exact ⟨2, by omega, by go_num, B0.out, BW.out, SL.out⟩
              case measure => simp [intOf]
          · obtain rfl : m = 2 := by omega
            go_wp2_with fail
            go_roundw
            case rel => exact ⟨k + 1, by omega, by go_num, by rw [HLN.out], by rw [HSN.out], B0.out, BW.out⟩
            case measure => simp [intOf]; omega
      · obtain rfl : k = N := by omega
        have hsx := HS.out k (by omega)
        have hF := Lib.hid (fun f => cad_a w wr B0.out vl n xs q a b (sumTo l k) ((HL.out.below BW.out).more BW.out.size) HG.out ⟨a0, a1, b1⟩ ⟨hsx.1, hfin.out⟩ f)
        go_upto_if 321 with (fail)
        go_step
        go_step
        go_step
        go_step
        repeat (first | exact wp_of_fn (by kernel_rfl) hF.out | go_step)
end Go.Proofs.YtamehlafmfmgmaaDoor
namespace Go.Proofs.YtamehlafmfmgmaaDoor
open Go.RowKit

/-- The list that is asked for hand-overs, and what was found. -/
structure CadU (W : World) (vu vh : Value) (m : Nat) (us : List Int) (th : Int) : Prop where
  l : Rd W W.heap.size 4 vu m us
  c : Cap vu
  m41 : m ≤ 41
  h : Rd W W.heap.size 1 vh (hnN m us th) (hnL m us th)
theorem CadU.keep {W W' : World} {vu vh : Value} {m : Nat} {us : List Int} {th : Int} (h : CadU W vu vh m us th) (hb : Below W.heap.size W W') : CadU W' vu vh m us th :=
  ⟨(h.l.below hb).more hb.size, h.c, h.m41, (h.h.below hb).more hb.size⟩
theorem hands_law {m : Nat} {us : List Int} {th : Int} {k : Nat} (hk : k < hnN m us th) : ∃ p p', HandLaw m us th ((hnL m us th).getD k 0) p p' := by
  cases hb : hnB m us th with
  | false => rw [(hn_no hb).2.2] at hk; omega
  | true =>
    obtain ⟨-, eL, eN⟩ := hn_yes hb
    rw [eN] at hk
    rw [eL]
    simp only [hnB, Bool.and_eq_true] at hb
    refine hand_law hb.1 hb.2 ?_
    rw [List.getD_eq_getElem?_getD, List.getElem?_eq_getElem hk]
    exact List.getElem_mem _
set_option maxRecDepth 100000 in
set_option maxHeartbeats 4000000 in
theorem cad_c (w W : World) (hB : Below w.heap.size w W) (vl vd : Value) (n lo : Nat) (gs : List Nat) (xs : List Int) (q a b : Int) (ob : Bool) (hD : CadD W vl vd n lo gs xs q a b) (hob : ddB n xs q a b = ob) (vu vh : Value) (m : Nat) (us : List Int) (th : Int) (hU : CadU W vu vh m us th) (f : Nat → Value) :
    Code.wp Tryd.prog (tailOf 20 cadBody) (bodyPost Tryd.prog Tryd.f4 (fun e w' => e = .returned (.bool true) ∧ Below w.heap.size w w')) ⟨#[f 0, f 1, f 2, f 3, f 4, vl, .int .i64 q, .int .i64 a, .int .i64 b, f 9, .bool ob, vd, f 12, f 13, f 14, f 15, f 16, f 17, f 18, f 19, f 20, f 21, f 22, f 23, f 24, f 25, f 26, vu, .int .i64 th, f 29, f 30, vh, f 32, f 33, f 34, f 35, f 36, f 37, f 38, f 39, f 40, f 41, f 42, f 43, f 44, f 45, f 46, f 47, f 48, f 49, f 50, f 51, f 52, f 53, f 54, f 55, f 56, f 57, f 58, f 59, f 60, f 61, f 62, f 63, f 64, f 65, f 66, f 67, f 68, f 69, f 70, f 71, f 72, f 73, f 74, f 75, f 76, f 77, f 78, f 79, f 80, f 81, f 82, f 83, f 84, f 85, f 86, f 87, f 88, f 89, f 90, f 91, f 92, f 93, f 94, f 95, f 96, f 97, f 98, f 99, f 100, f 101, f 102, f 103, f 104, f 105, f 106, f 107, f 108, f 109, f 110, f 111, f 112, f 113, f 114, f 115, f 116, f 117, f 118, f 119, f 120, f 121, f 122, f 123, f 124, f 125, f 126, f 127, f 128, f 129, f 130, f 131, f 132, f 133, f 134, f 135, f 136, f 137, f 138, f 139, f 140, f 141, f 142, f 143, f 144, f 145, f 146, f 147, f 148, f 149, f 150, f 151, f 152, f 153, f 154, f 155, f 156, f 157, f 158, f 159, f 160, f 161, f 162, f 163, f 164, f 165, f 166, f 167, f 168, f 169, f 170, f 171, f 172, f 173, f 174, f 175, f 176, f 177, f 178, f 179, f 180, f 181, f 182, f 183, f 184, f 185, f 186, f 187, f 188, f 189, f 190, f 191, f 192, f 193, f 194, f 195, f 196, f 197, f 198, f 199, f 200, f 201, f 202, f 203, f 204, f 205, f 206, f 207, f 208, f 209, f 210, f 211, f 212, f 213, f 214, f 215, f 216, f 217, f 218, f 219, f 220, f 221, f 222, f 223, f 224, f 225, f 226, f 227, f 228, f 229, f 230, f 231, f 232, f 233, f 234, f 235, f 236, f 237, f 238, f 239, f 240, f 241, f 242, f 243, f 244, f 245, f 246, f 247, f 248, f 249, f 250, f 251, f 252, f 253, f 254, f 255, f 256, f 257, f 258, f 259, f 260, f 261, f 262, f 263, f 264, f 265, f 266, f 267, f 268, f 269, f 270, f 271, f 272, f 273, f 274, f 275, f 276, f 277, f 278, f 279, f 280, f 281, f 282, f 283, f 284, f 285, f 286, f 287, f 288, f 289, f 290, f 291, f 292, f 293, f 294, f 295, f 296, f 297, f 298, f 299, f 300, f 301, f 302, f 303, f 304, f 305, f 306, f 307, f 308, f 309, f 310, f 311, f 312, f 313, f 314, f 315, f 316, f 317, f 318, f 319, f 320, f 321, f 322, f 323, f 324, f 325, f 326, f 327, f 328, f 329, f 330, f 331, f 332, f 333, f 334, f 335, f 336, f 337, f 338, f 339, f 340, f 341, f 342, f 343, f 344, f 345, f 346, f 347, f 348, f 349, f 350, f 351, f 352, f 353, f 354, f 355, f 356, f 357, f 358, f 359, f 360, f 361, f 362, f 363, f 364, f 365, f 366, f 367, f 368, f 369, f 370, f 371, f 372, f 373, f 374, f 375, f 376, f 377, f 378, f 379, f 380, f 381, f 382, f 383, f 384, f 385, f 386, f 387, f 388, f 389, f 390, f 391, f 392, f 393, f 394, f 395, f 396, f 397, f 398, f 399, f 400, f 401, f 402, f 403, f 404, f 405, f 406, f 407, f 408, f 409, f 410, f 411, f 412, f 413, f 414, f 415, f 416, f 417, f 418, f 419, f 420], []⟩ W := by
  have B0 := Lib.hid hB
  have BW := Lib.hid (Below.refl W.heap.size W)
  clear hB
  conv => arg 2; whnf
  have ED := Lib.hid hD
  have EU := Lib.hid hU
  have EO := Lib.hid hob
  clear hD hU hob
  have h41 := EU.out.m41
  have hN1 := hnN_le m us th
  have HH := Lib.hid (fun k (hk : k < hnN m us th) => hands_law hk)
  have PI := Lib.hid (fun (t : Int) (B : Nat) (W' : World) (h1 : Rd W' B 4 vu m us) (h2 : B ≤ W'.heap.size) => CarrierAt_any vu m B us th t W' EU.out.c h1 h2 (by omega))
  have PS := Lib.hid (fun (t : Int) (B : Nat) (W' : World) (h1 : Rd W' B 4 vu m us) (h2 : B ≤ W'.heap.size) => specCarrierAt_any vu m B us th t W' EU.out.c h1 h2 (by omega))
  obtain ⟨hhl, A, c, rfl, hA⟩ := EU.out.h
  obtain ⟨ys, ey⟩ : ∃ ys, hnL m us th = ys := ⟨_, rfl⟩
  obtain ⟨N, eN⟩ : ∃ N, hnN m us th = N := ⟨_, rfl⟩
  rw [ey, eN] at hA HH
  rw [eN] at hN1 ⊢
  have HA := Lib.hid hA
  clear hhl hA ey eN
  go_wp2_with fail
  go_loopw [250] (fun i wr => ∃ k : Nat, k ≤ N ∧ i = .int .i64 k ∧ Below W.heap.size W wr) (fun i _ => N - (intOf i).toNat)
  case atStart => exact ⟨0, by omega, rfl, BW.out⟩
  case round =>
    clear BW
    obtain ⟨k, hk, rfl, hb⟩ := hrel
    have BW := Lib.hid hb
    clear hb
    by_cases hlt : k < N
    · obtain ⟨p, p', ⟨r0, r1⟩, b1, v1, b2, v2, hne⟩ := HH.out k hlt
      obtain ⟨bb, off, rfl, hbB, hc⟩ := HA.out (by omega)
      have c0 := (BW.out.cell (p := ⟨bb, off + k, none⟩) hbB).trans (hc k (by omega))
      obtain ⟨x, ex⟩ : ∃ x, ys.getD k 0 = x := ⟨_, rfl⟩
      rw [ex] at c0 r0 r1 b1 v1 b2 v2
      have Q1 := PI.out (x - 1)
      have Q2 := PS.out (x - 1)
      have Q3 := PI.out x
      have Q4 := PS.out x
      rw [b1, v1] at Q1 Q2
      rw [b2, v2] at Q3 Q4
      have P1 := Lib.hid Q1
      have P2 := Lib.hid Q2
      have P3 := Lib.hid Q3
      have P4 := Lib.hid Q4
      have n1 : (p != p) = false := by simp
      have n2 : (p' != p') = false := by simp
      have n3 : (p == p') = false := by simpa using hne
      have u1 := IntWalk.i64_in (x - 1) (by omega)
      have j0 : (0 : Int) ≤ (k : Int) := by omega
      have j1 : (k : Int) < (N : Int) := by omega
      clear Q1 Q2 Q3 Q4 b1 v1 b2 v2 ex hc hne
      go_wp2_with fail
      refine (P1.out _ _ (EU.out.l.below BW.out) BW.out.size).mono ?_
      rintro e w1 ⟨rfl, hb⟩
      replace BW := Lib.hid (below_on BW.out hb)
      clear hb
      go_wp2_with fail
      refine (P2.out _ _ (EU.out.l.below BW.out) BW.out.size).mono ?_
      rintro e w2 ⟨rfl, hb⟩
      replace BW := Lib.hid (below_on BW.out hb)
      clear hb
      go_wp2_with fail
      refine (P3.out _ _ (EU.out.l.below BW.out) BW.out.size).mono ?_
      rintro e w3 ⟨rfl, hb⟩
      replace BW := Lib.hid (below_on BW.out hb)
      clear hb
      go_wp2_with fail
      refine (P4.out _ _ (EU.out.l.below BW.out) BW.out.size).mono ?_
      rintro e w4 ⟨rfl, hb⟩
      replace BW := Lib.hid (below_on BW.out hb)
      clear hb
      go_wp2_with fail
      go_roundw
      case rel => exact ⟨k + 1, by omega, by go_num, BW.out⟩
      case measure => simp [intOf]; omega
    · obtain rfl : k = N := by omega
      have hF := Lib.hid (fun f => cad_b w wr (below_on B0.out BW.out) vl vd n lo gs xs q a b ob (ED.out.keep BW.out) EO.out f)
      go_upto_if 251 with (fail)
      go_step
      go_step
      go_step
      go_step
      repeat (first | exact wp_of_fn (by kernel_rfl) hF.out | go_step)
end Go.Proofs.YtamehlafmfmgmaaDoor
namespace Go.Proofs.YtamehlafmfmgmaaDoor
open Go.RowKit

/-- A list that is asked for a carrier or a load. -/
structure CadO (W : World) (v : Value) (r : Nat) (zs : List Int) : Prop where
  l : Rd W W.heap.size 4 v r zs
  c : Cap v
  m41 : r ≤ 41
theorem CadO.keep {W W' : World} {v : Value} {r : Nat} {zs : List Int} (h : CadO W v r zs) (hb : Below W.heap.size W W') : CadO W' v r zs :=
  ⟨(h.l.below hb).more hb.size, h.c, h.m41⟩
set_option maxRecDepth 100000 in
set_option maxHeartbeats 4000000 in
theorem cad_d (w W : World) (hB : Below w.heap.size w W) (vl vd : Value) (n lo : Nat) (gs : List Nat) (xs : List Int) (q a b : Int) (ob : Bool) (hD : CadD W vl vd n lo gs xs q a b) (hob : ddB n xs q a b = ob) (vu vh : Value) (m : Nat) (us : List Int) (th : Int) (hU : CadU W vu vh m us th) (vb : Value) (r : Nat) (zs : List Int) (pe at_ cv : Int) (tb : Bool) (hZ : CadO W vb r zs) (htb : ldB r zs pe at_ = tb) (hcv : ldV r zs pe at_ = cv) (f : Nat → Value) :
    Code.wp Tryd.prog (tailOf 19 cadBody) (bodyPost Tryd.prog Tryd.f4 (fun e w' => e = .returned (.bool true) ∧ Below w.heap.size w w')) ⟨#[f 0, f 1, f 2, f 3, f 4, vl, .int .i64 q, .int .i64 a, .int .i64 b, f 9, .bool ob, vd, f 12, f 13, f 14, f 15, f 16, f 17, f 18, f 19, vb, .int .i64 pe, .int .i64 at_, f 23, .bool tb, .int .i64 cv, f 26, vu, .int .i64 th, f 29, f 30, vh, f 32, f 33, f 34, f 35, f 36, f 37, f 38, f 39, f 40, f 41, f 42, f 43, f 44, f 45, f 46, f 47, f 48, f 49, f 50, f 51, f 52, f 53, f 54, f 55, f 56, f 57, f 58, f 59, f 60, f 61, f 62, f 63, f 64, f 65, f 66, f 67, f 68, f 69, f 70, f 71, f 72, f 73, f 74, f 75, f 76, f 77, f 78, f 79, f 80, f 81, f 82, f 83, f 84, f 85, f 86, f 87, f 88, f 89, f 90, f 91, f 92, f 93, f 94, f 95, f 96, f 97, f 98, f 99, f 100, f 101, f 102, f 103, f 104, f 105, f 106, f 107, f 108, f 109, f 110, f 111, f 112, f 113, f 114, f 115, f 116, f 117, f 118, f 119, f 120, f 121, f 122, f 123, f 124, f 125, f 126, f 127, f 128, f 129, f 130, f 131, f 132, f 133, f 134, f 135, f 136, f 137, f 138, f 139, f 140, f 141, f 142, f 143, f 144, f 145, f 146, f 147, f 148, f 149, f 150, f 151, f 152, f 153, f 154, f 155, f 156, f 157, f 158, f 159, f 160, f 161, f 162, f 163, f 164, f 165, f 166, f 167, f 168, f 169, f 170, f 171, f 172, f 173, f 174, f 175, f 176, f 177, f 178, f 179, f 180, f 181, f 182, f 183, f 184, f 185, f 186, f 187, f 188, f 189, f 190, f 191, f 192, f 193, f 194, f 195, f 196, f 197, f 198, f 199, f 200, f 201, f 202, f 203, f 204, f 205, f 206, f 207, f 208, f 209, f 210, f 211, f 212, f 213, f 214, f 215, f 216, f 217, f 218, f 219, f 220, f 221, f 222, f 223, f 224, f 225, f 226, f 227, f 228, f 229, f 230, f 231, f 232, f 233, f 234, f 235, f 236, f 237, f 238, f 239, f 240, f 241, f 242, f 243, f 244, f 245, f 246, f 247, f 248, f 249, f 250, f 251, f 252, f 253, f 254, f 255, f 256, f 257, f 258, f 259, f 260, f 261, f 262, f 263, f 264, f 265, f 266, f 267, f 268, f 269, f 270, f 271, f 272, f 273, f 274, f 275, f 276, f 277, f 278, f 279, f 280, f 281, f 282, f 283, f 284, f 285, f 286, f 287, f 288, f 289, f 290, f 291, f 292, f 293, f 294, f 295, f 296, f 297, f 298, f 299, f 300, f 301, f 302, f 303, f 304, f 305, f 306, f 307, f 308, f 309, f 310, f 311, f 312, f 313, f 314, f 315, f 316, f 317, f 318, f 319, f 320, f 321, f 322, f 323, f 324, f 325, f 326, f 327, f 328, f 329, f 330, f 331, f 332, f 333, f 334, f 335, f 336, f 337, f 338, f 339, f 340, f 341, f 342, f 343, f 344, f 345, f 346, f 347, f 348, f 349, f 350, f 351, f 352, f 353, f 354, f 355, f 356, f 357, f 358, f 359, f 360, f 361, f 362, f 363, f 364, f 365, f 366, f 367, f 368, f 369, f 370, f 371, f 372, f 373, f 374, f 375, f 376, f 377, f 378, f 379, f 380, f 381, f 382, f 383, f 384, f 385, f 386, f 387, f 388, f 389, f 390, f 391, f 392, f 393, f 394, f 395, f 396, f 397, f 398, f 399, f 400, f 401, f 402, f 403, f 404, f 405, f 406, f 407, f 408, f 409, f 410, f 411, f 412, f 413, f 414, f 415, f 416, f 417, f 418, f 419, f 420], []⟩ W := by
  have B0 := Lib.hid hB
  have BW := Lib.hid (Below.refl W.heap.size W)
  clear hB
  conv => arg 2; whnf
  have ED := Lib.hid hD
  have EU := Lib.hid hU
  have EO := Lib.hid hob
  have EZ := Lib.hid hZ
  clear hD hU hob hZ
  cases tb with
  | false =>
    go_upto_if 233 with (fail)
    go_step
    go_step
    go_step
    go_step
    exact wp_of_fn (by kernel_rfl) (fun f => cad_c w W B0.out vl vd n lo gs xs q a b ob ED.out EO.out vu vh m us th EU.out f)
  | true =>
    obtain ⟨k1, k2⟩ := ld_cr htb hcv
    have h41 := EZ.out.m41
    have PL := Lib.hid (fun (B : Nat) (W' : World) (h1 : Rd W' B 4 vb r zs) (h2 : B ≤ W'.heap.size) => (by have := CarrierAt_any vb r B zs cv at_ W' EZ.out.c h1 h2 (by omega); rw [k1, k2] at this; exact this : Calls Tryd.prog 14 #[vb, .int .i64 cv, .int .i64 at_] W' fun e w' => e = .returned (.tuple #[.int .i64 pe, .bool true]) ∧ Below W'.heap.size W' w'))
    have nq : (pe != pe) = false := by simp
    clear k1 k2 h41
    go_wp2_with fail
    refine (PL.out _ _ (EZ.out.l.below BW.out) BW.out.size).mono ?_
    rintro e w1 ⟨rfl, hb⟩
    have HF := Lib.hid (fun f => cad_c w w1 (below_on B0.out hb) vl vd n lo gs xs q a b ob (ED.out.keep hb) EO.out vu vh m us th (EU.out.keep hb) f)
    go_upto_if 247 with (fail)
    go_step
    go_step
    go_step
    go_step
    exact wp_of_fn (by kernel_rfl) HF.out
end Go.Proofs.YtamehlafmfmgmaaDoor
namespace Go.Proofs.YtamehlafmfmgmaaDoor
open Go.RowKit

set_option maxRecDepth 100000 in
set_option maxHeartbeats 4000000 in
theorem cad_e (w W : World) (hB : Below w.heap.size w W) (vl vd : Value) (n lo : Nat) (gs : List Nat) (xs : List Int) (q a b : Int) (ob : Bool) (hD : CadD W vl vd n lo gs xs q a b) (hob : ddB n xs q a b = ob) (vu vh : Value) (m : Nat) (us : List Int) (th : Int) (hU : CadU W vu vh m us th) (vb : Value) (r : Nat) (zs : List Int) (pe at_ cv : Int) (tb : Bool) (hZ : CadO W vb r zs) (htb : ldB r zs pe at_ = tb) (hcv : ldV r zs pe at_ = cv) (va : Value) (s : Nat) (ks : List Int) (ot ct dv : Int) (sb : Bool) (hY : CadO W va s ks) (hsb : crB s ks ot ct = sb) (hdv : crV s ks ot ct = dv) (f : Nat → Value) :
    Code.wp Tryd.prog (tailOf 18 cadBody) (bodyPost Tryd.prog Tryd.f4 (fun e w' => e = .returned (.bool true) ∧ Below w.heap.size w w')) ⟨#[f 0, f 1, f 2, f 3, f 4, vl, .int .i64 q, .int .i64 a, .int .i64 b, f 9, .bool ob, vd, f 12, va, .int .i64 ot, .int .i64 ct, f 16, .bool sb, .int .i64 dv, f 19, vb, .int .i64 pe, .int .i64 at_, f 23, .bool tb, .int .i64 cv, f 26, vu, .int .i64 th, f 29, f 30, vh, f 32, f 33, f 34, f 35, f 36, f 37, f 38, f 39, f 40, f 41, f 42, f 43, f 44, f 45, f 46, f 47, f 48, f 49, f 50, f 51, f 52, f 53, f 54, f 55, f 56, f 57, f 58, f 59, f 60, f 61, f 62, f 63, f 64, f 65, f 66, f 67, f 68, f 69, f 70, f 71, f 72, f 73, f 74, f 75, f 76, f 77, f 78, f 79, f 80, f 81, f 82, f 83, f 84, f 85, f 86, f 87, f 88, f 89, f 90, f 91, f 92, f 93, f 94, f 95, f 96, f 97, f 98, f 99, f 100, f 101, f 102, f 103, f 104, f 105, f 106, f 107, f 108, f 109, f 110, f 111, f 112, f 113, f 114, f 115, f 116, f 117, f 118, f 119, f 120, f 121, f 122, f 123, f 124, f 125, f 126, f 127, f 128, f 129, f 130, f 131, f 132, f 133, f 134, f 135, f 136, f 137, f 138, f 139, f 140, f 141, f 142, f 143, f 144, f 145, f 146, f 147, f 148, f 149, f 150, f 151, f 152, f 153, f 154, f 155, f 156, f 157, f 158, f 159, f 160, f 161, f 162, f 163, f 164, f 165, f 166, f 167, f 168, f 169, f 170, f 171, f 172, f 173, f 174, f 175, f 176, f 177, f 178, f 179, f 180, f 181, f 182, f 183, f 184, f 185, f 186, f 187, f 188, f 189, f 190, f 191, f 192, f 193, f 194, f 195, f 196, f 197, f 198, f 199, f 200, f 201, f 202, f 203, f 204, f 205, f 206, f 207, f 208, f 209, f 210, f 211, f 212, f 213, f 214, f 215, f 216, f 217, f 218, f 219, f 220, f 221, f 222, f 223, f 224, f 225, f 226, f 227, f 228, f 229, f 230, f 231, f 232, f 233, f 234, f 235, f 236, f 237, f 238, f 239, f 240, f 241, f 242, f 243, f 244, f 245, f 246, f 247, f 248, f 249, f 250, f 251, f 252, f 253, f 254, f 255, f 256, f 257, f 258, f 259, f 260, f 261, f 262, f 263, f 264, f 265, f 266, f 267, f 268, f 269, f 270, f 271, f 272, f 273, f 274, f 275, f 276, f 277, f 278, f 279, f 280, f 281, f 282, f 283, f 284, f 285, f 286, f 287, f 288, f 289, f 290, f 291, f 292, f 293, f 294, f 295, f 296, f 297, f 298, f 299, f 300, f 301, f 302, f 303, f 304, f 305, f 306, f 307, f 308, f 309, f 310, f 311, f 312, f 313, f 314, f 315, f 316, f 317, f 318, f 319, f 320, f 321, f 322, f 323, f 324, f 325, f 326, f 327, f 328, f 329, f 330, f 331, f 332, f 333, f 334, f 335, f 336, f 337, f 338, f 339, f 340, f 341, f 342, f 343, f 344, f 345, f 346, f 347, f 348, f 349, f 350, f 351, f 352, f 353, f 354, f 355, f 356, f 357, f 358, f 359, f 360, f 361, f 362, f 363, f 364, f 365, f 366, f 367, f 368, f 369, f 370, f 371, f 372, f 373, f 374, f 375, f 376, f 377, f 378, f 379, f 380, f 381, f 382, f 383, f 384, f 385, f 386, f 387, f 388, f 389, f 390, f 391, f 392, f 393, f 394, f 395, f 396, f 397, f 398, f 399, f 400, f 401, f 402, f 403, f 404, f 405, f 406, f 407, f 408, f 409, f 410, f 411, f 412, f 413, f 414, f 415, f 416, f 417, f 418, f 419, f 420], []⟩ W := by
  have B0 := Lib.hid hB
  have BW := Lib.hid (Below.refl W.heap.size W)
  clear hB
  conv => arg 2; whnf
  have ED := Lib.hid hD
  have EU := Lib.hid hU
  have EO := Lib.hid hob
  have EY := Lib.hid hZ
  have EZ := Lib.hid hY
  have TB := Lib.hid htb
  have CV := Lib.hid hcv
  clear hD hU hob hZ hY htb hcv
  cases sb with
  | false =>
    go_upto_if 218 with (fail)
    go_step
    go_step
    go_step
    go_step
    exact wp_of_fn (by kernel_rfl) (fun f => cad_d w W B0.out vl vd n lo gs xs q a b ob ED.out EO.out vu vh m us th EU.out vb r zs pe at_ cv tb EY.out TB.out CV.out f)
  | true =>
    obtain ⟨k1, k2⟩ := cr_ld hsb hdv
    have h41 := EZ.out.m41
    have PL := Lib.hid (fun (B : Nat) (W' : World) (h1 : Rd W' B 4 va s ks) (h2 : B ≤ W'.heap.size) => (by have := LoadAt_any va s B ks dv ct W' EZ.out.c h1 h2 (by omega); rw [k1, k2] at this; exact this : Calls Tryd.prog 17 #[va, .int .i64 dv, .int .i64 ct] W' fun e w' => e = .returned (.tuple #[.int .i64 ot, .bool true]) ∧ Below W'.heap.size W' w'))
    have nq : (ot != ot) = false := by simp
    clear k1 k2 h41
    go_wp2_with fail
    refine (PL.out _ _ (EZ.out.l.below BW.out) BW.out.size).mono ?_
    rintro e w1 ⟨rfl, hb⟩
    have HF := Lib.hid (fun f => cad_d w w1 (below_on B0.out hb) vl vd n lo gs xs q a b ob (ED.out.keep hb) EO.out vu vh m us th (EU.out.keep hb) vb r zs pe at_ cv tb (EY.out.keep hb) TB.out CV.out f)
    go_upto_if 232 with (fail)
    go_step
    go_step
    go_step
    go_step
    exact wp_of_fn (by kernel_rfl) HF.out
end Go.Proofs.YtamehlafmfmgmaaDoor
