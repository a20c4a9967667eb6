/- The law on transitions from the second draw on. Condition: what both sides have found. For all drawn charts no matching has a less sum than the least transition, none a less farthest way than the even one, and all arrive at the places: the walk. Without conditions. -/
import Derived.Test.YtnlneblipedddaaPFnTransitions41
import Derived.Test.YtnlneblipedddaaPFnTransitions45
import Derived.Test.YtnlneblipedddaaPFnTransitions11
import Derived.Test.YtnlneblipedddaaPFnTransitions30
import Derived.Test.YtnlneblipedddaaPFnTransitions39
import Derived.Test.YtnlneblipedddaaPFnTransitions36
import Derived.Test.YtnlneblipedddaaPFnTransitions09
namespace Go.Proofs.Ytnlneblipedddaa
open Go.RowKit

set_option maxRecDepth 100000 in
set_option maxHeartbeats 4000000 in
theorem trn_c (w W : World) (hB : Below w.heap.size w W) (Az : Option Addr) (nz cz : Nat) (hz : RdB W W.heap.size Az nz) (hmz : nz ≤ 9223372036854775807) (n m : Nat) (xs ys : List Int) (c : Int) (ob : Bool) (hob : aaB n xs m ys c = ob) (lb cab : Nat) (Ab : Option Addr) (hb9 : RowR W lb (.slice Ab m cab) m ys) (g1 l1 : Nat) (A1 C1 D1 : Option Addr) (ca1 cb1 cc1 : Nat) (h1 : TrR W g1 l1 A1 C1 D1 ca1 cb1 cc1 (ltT n xs m ys c)) (g2 l2 : Nat) (A2 C2 D2 : Option Addr) (ca2 cb2 cc2 : Nat) (h2 : TrR W g2 l2 A2 C2 D2 ca2 cb2 cc2 (ltT n xs m ys c)) (g3 l3 : Nat) (A3 C3 D3 : Option Addr) (ca3 cb3 cc3 : Nat) (h3 : TrR W g3 l3 A3 C3 D3 ca3 cb3 cc3 (evT n xs m ys c)) (g5 l5 : Nat) (A5 C5 D5 : Option Addr) (ca5 cb5 cc5 : Nat) (h5 : TrR W g5 l5 A5 C5 D5 ca5 cb5 cc5 (plT n xs m ys c)) (f : Nat → Value) :
    Code.wp Try.prog (tailOf 10 trnBody) (bodyPost Try.prog Try.f3 (fun e w' => e = .returned (.bool true) ∧ Below w.heap.size w w')) ⟨#[f 0, .slice Az nz cz, f 2, f 3, f 4, f 5, .slice Ab m cab, f 7, .pointer (some ⟨g1, 0, none⟩), .bool ob, .pointer (some ⟨g2, 0, none⟩), f 11, .pointer (some ⟨g3, 0, none⟩), f 13, f 14, f 15, .pointer (some ⟨g5, 0, none⟩), f 17, f 18, f 19, f 20, f 21, f 22, f 23, f 24, f 25, f 26, f 27, f 28, f 29, f 30, f 31, f 32, f 33, f 34, f 35, f 36, f 37, f 38, f 39, f 40, f 41, f 42, f 43, f 44, f 45, f 46, f 47, f 48, f 49, f 50, f 51, f 52, f 53, f 54, f 55, f 56, f 57, f 58, f 59, f 60, f 61, f 62, f 63, f 64, f 65, f 66, f 67, f 68, f 69, f 70, f 71, f 72, f 73, f 74, f 75, f 76, f 77, f 78, f 79, f 80, f 81, f 82, f 83, f 84, f 85, f 86, f 87, f 88, f 89, f 90, f 91, f 92, f 93, f 94, f 95, f 96, f 97, f 98, f 99, f 100, f 101, f 102, f 103, f 104, f 105, f 106, f 107, f 108, f 109, f 110, f 111, f 112, f 113, f 114, f 115, f 116, f 117, f 118, f 119, f 120, f 121, f 122, f 123, f 124, f 125, f 126, f 127, f 128, f 129, f 130, f 131, f 132, f 133, f 134, f 135, f 136, f 137, f 138, f 139, f 140, f 141, f 142, f 143, f 144, f 145, f 146, f 147, f 148, f 149, f 150, f 151, f 152, f 153, f 154, f 155, f 156, f 157, f 158, f 159, f 160, f 161, f 162, f 163, f 164, f 165, f 166, f 167, f 168, f 169, f 170, f 171, f 172, f 173, f 174, f 175, f 176, f 177, f 178, f 179, f 180, f 181, f 182, f 183, f 184, f 185, f 186, f 187, f 188, f 189, f 190, f 191, f 192, f 193, f 194, f 195, f 196, f 197, f 198, f 199, f 200, f 201, f 202, f 203, f 204, f 205, f 206, f 207, f 208, f 209, f 210, f 211, f 212, f 213, f 214, f 215, f 216, f 217, f 218, f 219, f 220, f 221, f 222, f 223, f 224, f 225, f 226, f 227, f 228, f 229, f 230, f 231, f 232, f 233, f 234, f 235, f 236, f 237, f 238, f 239, f 240, f 241, f 242, f 243, f 244, f 245, f 246, f 247, f 248, f 249, f 250, f 251, f 252, f 253, f 254, f 255, f 256, f 257, f 258, f 259, f 260, f 261, f 262, f 263, f 264, f 265, f 266, f 267, f 268, f 269, f 270, f 271, f 272, f 273, f 274, f 275, f 276, f 277, f 278, f 279, f 280, f 281, f 282, f 283, f 284, f 285, f 286, f 287, f 288, f 289, f 290, f 291, f 292, f 293, f 294, f 295, f 296, f 297, f 298, f 299, f 300, f 301, f 302, f 303, f 304, f 305, f 306, f 307, f 308, f 309, f 310, f 311, f 312, f 313, f 314, f 315, f 316, f 317, f 318, f 319, f 320, f 321, f 322, f 323, f 324, f 325, f 326, f 327, f 328, f 329, f 330], []⟩ W := by
  conv => arg 2; whnf
  have B0 := Lib.hid hB
  have HZ := Lib.hid hz
  have Rb := Lib.hid hb9
  clear hB hz hb9
  have R1 := Lib.hid h1
  clear h1
  have R2 := Lib.hid h2
  clear h2
  have R3 := Lib.hid h3
  clear h3
  have R5 := Lib.hid h5
  clear h5
  go_wp2_with fail
  refine (DrawIsTransition_any Az nz cz _ HZ.out hmz).mono ?_
  rintro e w1 ⟨r, t, rfl, oa, hsz, hb⟩
  replace B0 := Lib.hid (below_on B0.out hb)
  replace Rb := Lib.hid (Rb.out.keep hb)
  replace R1 := Lib.hid (R1.out.keep hb)
  replace R2 := Lib.hid (R2.out.keep hb)
  replace R3 := Lib.hid (R3.out.keep hb)
  replace R5 := Lib.hid (R5.out.keep hb)
  clear hb
  have ST := Lib.hid (show t.small from ⟨by omega, by omega, by omega⟩)
  clear hsz
  obtain ⟨At, cat, Ct, cbt, Dt, cct, rfl, -, -, -⟩ := oa.form
  have Ot := Lib.hid oa
  clear oa
  have Kt := Lib.hid (Blk.new w1 29 #[.slice At t.n cat, .slice Ct t.m cbt, .int .i64 t.c, .slice Dt t.p cct])
  replace B0 := Lib.hid (below_new B0.out (.cells #[.slice At t.n cat, .slice Ct t.m cbt, .int .i64 t.c, .slice Dt t.p cct] 29))
  replace Rb := Lib.hid (Rb.out.keep (below_new (Below.refl _ _) (.cells #[.slice At t.n cat, .slice Ct t.m cbt, .int .i64 t.c, .slice Dt t.p cct] 29)))
  replace R1 := Lib.hid (R1.out.keep (below_new (Below.refl _ _) (.cells #[.slice At t.n cat, .slice Ct t.m cbt, .int .i64 t.c, .slice Dt t.p cct] 29)))
  replace R2 := Lib.hid (R2.out.keep (below_new (Below.refl _ _) (.cells #[.slice At t.n cat, .slice Ct t.m cbt, .int .i64 t.c, .slice Dt t.p cct] 29)))
  replace R3 := Lib.hid (R3.out.keep (below_new (Below.refl _ _) (.cells #[.slice At t.n cat, .slice Ct t.m cbt, .int .i64 t.c, .slice Dt t.p cct] 29)))
  replace R5 := Lib.hid (R5.out.keep (below_new (Below.refl _ _) (.cells #[.slice At t.n cat, .slice Ct t.m cbt, .int .i64 t.c, .slice Dt t.p cct] 29)))
  replace Ot := Lib.hid (Ot.out.keep (below_new (Below.refl _ _) (.cells #[.slice At t.n cat, .slice Ct t.m cbt, .int .i64 t.c, .slice Dt t.p cct] 29)))
  obtain ⟨tb, gtb⟩ : ∃ q9, trB t = q9 := ⟨_, rfl⟩
  have P := fun (W : World) (lo : Nat) (h : OwnA W lo (.agg #[.slice At t.n cat, .slice Ct t.m cbt, .int .i64 t.c, .slice Dt t.p cct]) t) => IsTransition_any (.agg #[.slice At t.n cat, .slice Ct t.m cbt, .int .i64 t.c, .slice Dt t.p cct]) W.heap.size t W h.cap h.rd (Nat.le_refl _) ST.out
  rw [gtb] at P
  replace P := Lib.hid P
  have PS := fun (W : World) (lo : Nat) (h : OwnA W lo (.agg #[.slice At t.n cat, .slice Ct t.m cbt, .int .i64 t.c, .slice Dt t.p cct]) t) => specIsTransition_any (.agg #[.slice At t.n cat, .slice Ct t.m cbt, .int .i64 t.c, .slice Dt t.p cct]) W.heap.size t W h.cap h.rd (Nat.le_refl _) ST.out
  rw [gtb] at PS
  replace PS := Lib.hid PS
  clear gtb
  have nt : (tb != tb) = false := by simp
  obtain ⟨k0, k1, k2, k3⟩ := Kt.out.c4
  go_wp2_with fail
  refine wp_region_held_drew (S := fun V => V.cell? ⟨w1.heap.size, 0, none⟩ = some (.slice At t.n cat) ∧ V.cell? ⟨w1.heap.size, 1, none⟩ = some (.slice Ct t.m cbt) ∧ V.cell? ⟨w1.heap.size, 2, none⟩ = some (.int .i64 t.c) ∧ V.cell? ⟨w1.heap.size, 3, none⟩ = some (.slice Dt t.p cct)) (by kernel_rfl) ⟨k0, k1, k2, k3⟩ (fun hHeld => ?_)
  clear k0 k1 k2 k3
  refine take_at (i := 0) (oi := _) 146 (v := .agg #[.slice At t.n cat, .slice Ct t.m cbt, .int .i64 t.c, .slice Dt t.p cct]) rfl rfl (by kernel_rfl) (by kernel_rfl) (by kernel_rfl) (fun _ _ _ h => h) (Or.inl ⟨by rfl, ?_⟩) hHeld ?_
  · (intro w hSw; (try dsimp only at hSw); go_split_ands; go_simp)
  simp only [List.setIfInBounds_toArray, List.set_cons_zero, List.set_cons_succ]
  refine take_at (i := 2) (oi := _) 148 (v := .agg #[.slice At t.n cat, .slice Ct t.m cbt, .int .i64 t.c, .slice Dt t.p cct]) rfl rfl (by kernel_rfl) (by kernel_rfl) (by kernel_rfl) (fun _ _ _ h => h) (Or.inl ⟨by rfl, ?_⟩) hHeld ?_
  · (intro w hSw; (try dsimp only at hSw); go_split_ands; go_simp)
  simp only [List.setIfInBounds_toArray, List.set_cons_zero, List.set_cons_succ]
  have hb := below_drewN (Below.refl (w1.alloc (.cells #[.slice At t.n cat, .slice Ct t.m cbt, .int .i64 t.c, .slice Dt t.p cct] 29)).heap.size (w1.alloc (.cells #[.slice At t.n cat, .slice Ct t.m cbt, .int .i64 t.c, .slice Dt t.p cct] 29))) 1
  replace B0 := Lib.hid (below_on B0.out hb)
  replace Rb := Lib.hid (Rb.out.keep hb)
  replace R1 := Lib.hid (R1.out.keep hb)
  replace R2 := Lib.hid (R2.out.keep hb)
  replace R3 := Lib.hid (R3.out.keep hb)
  replace R5 := Lib.hid (R5.out.keep hb)
  replace Ot := Lib.hid (Ot.out.keep hb)
  replace Kt := Lib.hid (Kt.out.on hb)
  clear hb
  refine wpAnyH_ready (rs := [1]) (by kernel_rfl) (by simp) ?_
  refine AllReadyH.cons (o := _) rfl (fun K9 hK => ?_) AllReadyH.nil
  go_simp
  refine (P.out _ _ Ot.out).mono ?_
  rintro e w2 ⟨rfl, hb⟩
  replace B0 := Lib.hid (below_on B0.out hb)
  replace Rb := Lib.hid (Rb.out.keep hb)
  replace R1 := Lib.hid (R1.out.keep hb)
  replace R2 := Lib.hid (R2.out.keep hb)
  replace R3 := Lib.hid (R3.out.keep hb)
  replace R5 := Lib.hid (R5.out.keep hb)
  replace Ot := Lib.hid (Ot.out.keep hb)
  replace Kt := Lib.hid (Kt.out.on hb)
  refine hK.out _ _ Kt.out.c4 (fun hHeld => ?_)
  clear hK K9 hb
  try simp only [Act.put, List.setIfInBounds_toArray, List.set_cons_zero, List.set_cons_succ]
  refine wpAnyH_ready (rs := [3]) (by kernel_rfl) (by simp) ?_
  refine AllReadyH.cons (o := _) rfl (fun K9 hK => ?_) AllReadyH.nil
  go_simp
  refine (PS.out _ _ Ot.out).mono ?_
  rintro e w3 ⟨rfl, hb⟩
  replace B0 := Lib.hid (below_on B0.out hb)
  replace Rb := Lib.hid (Rb.out.keep hb)
  replace R1 := Lib.hid (R1.out.keep hb)
  replace R2 := Lib.hid (R2.out.keep hb)
  replace R3 := Lib.hid (R3.out.keep hb)
  replace R5 := Lib.hid (R5.out.keep hb)
  replace Ot := Lib.hid (Ot.out.keep hb)
  replace Kt := Lib.hid (Kt.out.on hb)
  refine hK.out _ _ Kt.out.c4 (fun hHeld => ?_)
  clear hK K9 hb
  try simp only [Act.put, List.setIfInBounds_toArray, List.set_cons_zero, List.set_cons_succ]
  refine take_at (i := 4) (oi := _) 150 (v := .bool false) rfl rfl (by kernel_rfl) (by kernel_rfl) (by kernel_rfl) (fun _ _ _ h => h) (Or.inl ⟨by rfl, ?_⟩) hHeld ?_
  · (intro w hSw; (try dsimp only at hSw); go_split_ands; go_simp)
  simp only [List.setIfInBounds_toArray, List.set_cons_zero, List.set_cons_succ]
  refine wpAnyH_done (by kernel_rfl) ?_ _
  clear hHeld
  go_upto_if 150 with (fail)
  go_step
  go_step
  go_step
  go_step
  repeat (first | exact wp_of_fn (by kernel_rfl) (fun f => trn_b w w3 B0.out w1.heap.size _ At Ct Dt cat cbt cct t ⟨Kt.out, Ot.out, ST.out⟩ n m xs ys c ob hob lb cab Ab Rb.out g1 l1 A1 C1 D1 ca1 cb1 cc1 R1.out g2 l2 A2 C2 D2 ca2 cb2 cc2 R2.out g3 l3 A3 C3 D3 ca3 cb3 cc3 R3.out g5 l5 A5 C5 D5 ca5 cb5 cc5 R5.out f) | go_step)
end Go.Proofs.Ytnlneblipedddaa

namespace Go.Proofs.Ytnlneblipedddaa
open Go.RowKit

theorem lt_sm {n m : Nat} {xs ys : List Int} {c : Int} : (ltT n xs m ys c).small := by
  unfold ltT
  split
  · rename_i h
    obtain ⟨h1, h2, _⟩ := aa_yes h
    exact ⟨by show n ≤ _; omega, by show m ≤ _; omega, by show n ≤ _; omega⟩
  · exact ⟨by decide, by decide, by decide⟩
theorem pl_sm {n m : Nat} {xs ys : List Int} {c : Int} : (plT n xs m ys c).small := by
  unfold plT
  split
  · rename_i h
    obtain ⟨h1, h2, _⟩ := aa_yes h
    exact ⟨by show n ≤ _; omega, by show m ≤ _; omega, by show n ≤ _; omega⟩
  · exact ⟨by decide, by decide, by decide⟩
set_option maxRecDepth 100000 in
set_option maxHeartbeats 4000000 in
theorem trn_walk (w : World) (A0 : Option Addr) (n0 c0 : Nat) (hr0 : RdB w w.heap.size A0 n0) (hm0 : n0 ≤ maxLen) (Az : Option Addr) (nz cz : Nat) (hr1 : RdB w w.heap.size Az nz) (hmz : nz ≤ maxLen) :
    Calls Try.prog 3 #[.slice A0 n0 c0, .slice Az nz cz] w fun e w' => e = .returned (.bool true) ∧ Below w.heap.size w w' := by
  unfold maxLen at hm0 hmz
  have H0 := Lib.hid hr0
  have H1 := Lib.hid hr1
  have B0 := Lib.hid (Below.refl w.heap.size w)
  clear hr0 hr1
  go_enter Try.func3, Try.ntmps3
  go_wp2_with fail
  refine (big_any A0 n0 c0 Az nz cz _).mono ?_
  rintro e w' ⟨bg, rfl, rfl⟩
  cases bg with
  | true =>
    go_wp2_with fail
    go_ret
    exact ⟨rfl, B0.out⟩
  | false =>
    go_wp2_with fail
    refine (DrawLeastTransition_any A0 n0 c0 _ H0.out hm0).mono ?_
    rintro e w1 ⟨va, vb, n, m, xs, ys, c, rfl, ha, hv, hn, hm, hb⟩
    replace B0 := Lib.hid (below_on B0.out hb)
    clear hb
    obtain ⟨Aa, caa, rfl⟩ := (Rd.of_own ha).form
    obtain ⟨Ab, cab, rfl⟩ := (Rd.of_own hv).form
    have Ra := Lib.hid (RowR.mk ha)
    have Rb := Lib.hid (RowR.mk hv)
    clear ha hv
    obtain ⟨ob, gob⟩ : ∃ q9, aaB n xs m ys c = q9 := ⟨_, rfl⟩
    have HL := Lib.hid (lt_sm (n := n) (m := m) (xs := xs) (ys := ys) (c := c))
    have HE := Lib.hid (evT_small (n := n) (m := m) (xs := xs) (ys := ys) (c := c))
    have HP := Lib.hid (pl_sm (n := n) (m := m) (xs := xs) (ys := ys) (c := c))
    have P := fun (W : World) (lo : Nat) (h1 : RowR W lo (.slice Aa n caa) n xs) (h2 : RowR W lo (.slice Ab m cab) m ys) => LeastTransition_any _ _ lo n m xs ys c W h1.o h2.o (by omega) (by omega)
    rw [gob] at P
    replace P := Lib.hid P
    go_wp2_with fail
    refine (P.out _ _ Ra.out Rb.out).mono ?_
    rintro e w2 ⟨r, rfl, oa, hb⟩
    replace B0 := Lib.hid (below_on B0.out hb)
    replace Ra := Lib.hid (Ra.out.keep hb)
    replace Rb := Lib.hid (Rb.out.keep hb)
    clear hb
    clear P
    obtain ⟨tl, gtl⟩ : ∃ q9, ltT n xs m ys c = q9 := ⟨_, rfl⟩
    rw [gtl] at oa
    rw [gtl] at HL
    obtain ⟨A1, ca1, C1, cb1, D1, cc1, rfl, -, -, -⟩ := oa.form
    have O1 := Lib.hid oa
    clear oa
    have K1 := Lib.hid (Blk.new w2 29 #[.slice A1 tl.n ca1, .slice C1 tl.m cb1, .int .i64 tl.c, .slice D1 tl.p cc1])
    replace B0 := Lib.hid (below_new B0.out (.cells #[.slice A1 tl.n ca1, .slice C1 tl.m cb1, .int .i64 tl.c, .slice D1 tl.p cc1] 29))
    replace Ra := Lib.hid (Ra.out.keep (below_new (Below.refl _ _) (.cells #[.slice A1 tl.n ca1, .slice C1 tl.m cb1, .int .i64 tl.c, .slice D1 tl.p cc1] 29)))
    replace Rb := Lib.hid (Rb.out.keep (below_new (Below.refl _ _) (.cells #[.slice A1 tl.n ca1, .slice C1 tl.m cb1, .int .i64 tl.c, .slice D1 tl.p cc1] 29)))
    replace O1 := Lib.hid (O1.out.keep (below_new (Below.refl _ _) (.cells #[.slice A1 tl.n ca1, .slice C1 tl.m cb1, .int .i64 tl.c, .slice D1 tl.p cc1] 29)))
    have P := fun (W : World) (lo : Nat) (h1 : RowR W lo (.slice Aa n caa) n xs) (h2 : RowR W lo (.slice Ab m cab) m ys) => specLeastTransition_any _ _ lo n m xs ys c W h1.o h2.o (by omega) (by omega)
    rw [gob] at P
    replace P := Lib.hid P
    go_wp2_with fail
    refine (P.out _ _ Ra.out Rb.out).mono ?_
    rintro e w3 ⟨r, rfl, oa, hb⟩
    replace B0 := Lib.hid (below_on B0.out hb)
    replace Ra := Lib.hid (Ra.out.keep hb)
    replace Rb := Lib.hid (Rb.out.keep hb)
    replace O1 := Lib.hid (O1.out.keep hb)
    replace K1 := Lib.hid (K1.out.on hb)
    clear hb
    clear P
    rw [gtl] at oa
    obtain ⟨A2, ca2, C2, cb2, D2, cc2, rfl, -, -, -⟩ := oa.form
    have O2 := Lib.hid oa
    clear oa
    have K2 := Lib.hid (Blk.new w3 29 #[.slice A2 tl.n ca2, .slice C2 tl.m cb2, .int .i64 tl.c, .slice D2 tl.p cc2])
    replace B0 := Lib.hid (below_new B0.out (.cells #[.slice A2 tl.n ca2, .slice C2 tl.m cb2, .int .i64 tl.c, .slice D2 tl.p cc2] 29))
    replace Ra := Lib.hid (Ra.out.keep (below_new (Below.refl _ _) (.cells #[.slice A2 tl.n ca2, .slice C2 tl.m cb2, .int .i64 tl.c, .slice D2 tl.p cc2] 29)))
    replace Rb := Lib.hid (Rb.out.keep (below_new (Below.refl _ _) (.cells #[.slice A2 tl.n ca2, .slice C2 tl.m cb2, .int .i64 tl.c, .slice D2 tl.p cc2] 29)))
    replace O1 := Lib.hid (O1.out.keep (below_new (Below.refl _ _) (.cells #[.slice A2 tl.n ca2, .slice C2 tl.m cb2, .int .i64 tl.c, .slice D2 tl.p cc2] 29)))
    replace K1 := Lib.hid (K1.out.alloc (.cells #[.slice A2 tl.n ca2, .slice C2 tl.m cb2, .int .i64 tl.c, .slice D2 tl.p cc2] 29))
    replace O2 := Lib.hid (O2.out.keep (below_new (Below.refl _ _) (.cells #[.slice A2 tl.n ca2, .slice C2 tl.m cb2, .int .i64 tl.c, .slice D2 tl.p cc2] 29)))
    have P := fun (W : World) (lo : Nat) (h1 : RowR W lo (.slice Aa n caa) n xs) (h2 : RowR W lo (.slice Ab m cab) m ys) => EvenTransition_any _ _ lo n m xs ys c W h1.o h2.o (by omega) (by omega)
    rw [gob] at P
    replace P := Lib.hid P
    go_wp2_with fail
    refine (P.out _ _ Ra.out Rb.out).mono ?_
    rintro e w4 ⟨r, rfl, oa, hb⟩
    replace B0 := Lib.hid (below_on B0.out hb)
    replace Ra := Lib.hid (Ra.out.keep hb)
    replace Rb := Lib.hid (Rb.out.keep hb)
    replace O1 := Lib.hid (O1.out.keep hb)
    replace K1 := Lib.hid (K1.out.on hb)
    replace O2 := Lib.hid (O2.out.keep hb)
    replace K2 := Lib.hid (K2.out.on hb)
    clear hb
    clear P
    obtain ⟨te, gte⟩ : ∃ q9, evT n xs m ys c = q9 := ⟨_, rfl⟩
    rw [gte] at oa
    rw [gte] at HE
    obtain ⟨A3, ca3, C3, cb3, D3, cc3, rfl, -, -, -⟩ := oa.form
    have O3 := Lib.hid oa
    clear oa
    have K3 := Lib.hid (Blk.new w4 29 #[.slice A3 te.n ca3, .slice C3 te.m cb3, .int .i64 te.c, .slice D3 te.p cc3])
    replace B0 := Lib.hid (below_new B0.out (.cells #[.slice A3 te.n ca3, .slice C3 te.m cb3, .int .i64 te.c, .slice D3 te.p cc3] 29))
    replace Ra := Lib.hid (Ra.out.keep (below_new (Below.refl _ _) (.cells #[.slice A3 te.n ca3, .slice C3 te.m cb3, .int .i64 te.c, .slice D3 te.p cc3] 29)))
    replace Rb := Lib.hid (Rb.out.keep (below_new (Below.refl _ _) (.cells #[.slice A3 te.n ca3, .slice C3 te.m cb3, .int .i64 te.c, .slice D3 te.p cc3] 29)))
    replace O1 := Lib.hid (O1.out.keep (below_new (Below.refl _ _) (.cells #[.slice A3 te.n ca3, .slice C3 te.m cb3, .int .i64 te.c, .slice D3 te.p cc3] 29)))
    replace K1 := Lib.hid (K1.out.alloc (.cells #[.slice A3 te.n ca3, .slice C3 te.m cb3, .int .i64 te.c, .slice D3 te.p cc3] 29))
    replace O2 := Lib.hid (O2.out.keep (below_new (Below.refl _ _) (.cells #[.slice A3 te.n ca3, .slice C3 te.m cb3, .int .i64 te.c, .slice D3 te.p cc3] 29)))
    replace K2 := Lib.hid (K2.out.alloc (.cells #[.slice A3 te.n ca3, .slice C3 te.m cb3, .int .i64 te.c, .slice D3 te.p cc3] 29))
    replace O3 := Lib.hid (O3.out.keep (below_new (Below.refl _ _) (.cells #[.slice A3 te.n ca3, .slice C3 te.m cb3, .int .i64 te.c, .slice D3 te.p cc3] 29)))
    have P := fun (W : World) (lo : Nat) (h1 : RowR W lo (.slice Aa n caa) n xs) (h2 : RowR W lo (.slice Ab m cab) m ys) => specEvenTransition_any _ _ lo n m xs ys c W h1.o h2.o (by omega) (by omega)
    rw [gob] at P
    replace P := Lib.hid P
    go_wp2_with fail
    refine (P.out _ _ Ra.out Rb.out).mono ?_
    rintro e w5 ⟨r, rfl, oa, hb⟩
    replace B0 := Lib.hid (below_on B0.out hb)
    replace Ra := Lib.hid (Ra.out.keep hb)
    replace Rb := Lib.hid (Rb.out.keep hb)
    replace O1 := Lib.hid (O1.out.keep hb)
    replace K1 := Lib.hid (K1.out.on hb)
    replace O2 := Lib.hid (O2.out.keep hb)
    replace K2 := Lib.hid (K2.out.on hb)
    replace O3 := Lib.hid (O3.out.keep hb)
    replace K3 := Lib.hid (K3.out.on hb)
    clear hb
    clear P
    rw [gte] at oa
    obtain ⟨A4, ca4, C4, cb4, D4, cc4, rfl, -, -, -⟩ := oa.form
    have O4 := Lib.hid oa
    clear oa
    have K4 := Lib.hid (Blk.new w5 29 #[.slice A4 te.n ca4, .slice C4 te.m cb4, .int .i64 te.c, .slice D4 te.p cc4])
    replace B0 := Lib.hid (below_new B0.out (.cells #[.slice A4 te.n ca4, .slice C4 te.m cb4, .int .i64 te.c, .slice D4 te.p cc4] 29))
    replace Ra := Lib.hid (Ra.out.keep (below_new (Below.refl _ _) (.cells #[.slice A4 te.n ca4, .slice C4 te.m cb4, .int .i64 te.c, .slice D4 te.p cc4] 29)))
    replace Rb := Lib.hid (Rb.out.keep (below_new (Below.refl _ _) (.cells #[.slice A4 te.n ca4, .slice C4 te.m cb4, .int .i64 te.c, .slice D4 te.p cc4] 29)))
    replace O1 := Lib.hid (O1.out.keep (below_new (Below.refl _ _) (.cells #[.slice A4 te.n ca4, .slice C4 te.m cb4, .int .i64 te.c, .slice D4 te.p cc4] 29)))
    replace K1 := Lib.hid (K1.out.alloc (.cells #[.slice A4 te.n ca4, .slice C4 te.m cb4, .int .i64 te.c, .slice D4 te.p cc4] 29))
    replace O2 := Lib.hid (O2.out.keep (below_new (Below.refl _ _) (.cells #[.slice A4 te.n ca4, .slice C4 te.m cb4, .int .i64 te.c, .slice D4 te.p cc4] 29)))
    replace K2 := Lib.hid (K2.out.alloc (.cells #[.slice A4 te.n ca4, .slice C4 te.m cb4, .int .i64 te.c, .slice D4 te.p cc4] 29))
    replace O3 := Lib.hid (O3.out.keep (below_new (Below.refl _ _) (.cells #[.slice A4 te.n ca4, .slice C4 te.m cb4, .int .i64 te.c, .slice D4 te.p cc4] 29)))
    replace K3 := Lib.hid (K3.out.alloc (.cells #[.slice A4 te.n ca4, .slice C4 te.m cb4, .int .i64 te.c, .slice D4 te.p cc4] 29))
    replace O4 := Lib.hid (O4.out.keep (below_new (Below.refl _ _) (.cells #[.slice A4 te.n ca4, .slice C4 te.m cb4, .int .i64 te.c, .slice D4 te.p cc4] 29)))
    have P := fun (W : World) (lo : Nat) (h1 : RowR W lo (.slice Aa n caa) n xs) (h2 : RowR W lo (.slice Ab m cab) m ys) => PlainTransition_any _ _ lo n m xs ys c W h1.o h2.o (by omega) (by omega)
    rw [gob] at P
    replace P := Lib.hid P
    go_wp2_with fail
    refine (P.out _ _ Ra.out Rb.out).mono ?_
    rintro e w6 ⟨r, rfl, oa, hb⟩
    replace B0 := Lib.hid (below_on B0.out hb)
    replace Ra := Lib.hid (Ra.out.keep hb)
    replace Rb := Lib.hid (Rb.out.keep hb)
    replace O1 := Lib.hid (O1.out.keep hb)
    replace K1 := Lib.hid (K1.out.on hb)
    replace O2 := Lib.hid (O2.out.keep hb)
    replace K2 := Lib.hid (K2.out.on hb)
    replace O3 := Lib.hid (O3.out.keep hb)
    replace K3 := Lib.hid (K3.out.on hb)
    replace O4 := Lib.hid (O4.out.keep hb)
    replace K4 := Lib.hid (K4.out.on hb)
    clear hb
    clear P
    obtain ⟨tp, gtp⟩ : ∃ q9, plT n xs m ys c = q9 := ⟨_, rfl⟩
    rw [gtp] at oa
    rw [gtp] at HP
    obtain ⟨A5, ca5, C5, cb5, D5, cc5, rfl, -, -, -⟩ := oa.form
    have O5 := Lib.hid oa
    clear oa
    have K5 := Lib.hid (Blk.new w6 29 #[.slice A5 tp.n ca5, .slice C5 tp.m cb5, .int .i64 tp.c, .slice D5 tp.p cc5])
    replace B0 := Lib.hid (below_new B0.out (.cells #[.slice A5 tp.n ca5, .slice C5 tp.m cb5, .int .i64 tp.c, .slice D5 tp.p cc5] 29))
    replace Ra := Lib.hid (Ra.out.keep (below_new (Below.refl _ _) (.cells #[.slice A5 tp.n ca5, .slice C5 tp.m cb5, .int .i64 tp.c, .slice D5 tp.p cc5] 29)))
    replace Rb := Lib.hid (Rb.out.keep (below_new (Below.refl _ _) (.cells #[.slice A5 tp.n ca5, .slice C5 tp.m cb5, .int .i64 tp.c, .slice D5 tp.p cc5] 29)))
    replace O1 := Lib.hid (O1.out.keep (below_new (Below.refl _ _) (.cells #[.slice A5 tp.n ca5, .slice C5 tp.m cb5, .int .i64 tp.c, .slice D5 tp.p cc5] 29)))
    replace K1 := Lib.hid (K1.out.alloc (.cells #[.slice A5 tp.n ca5, .slice C5 tp.m cb5, .int .i64 tp.c, .slice D5 tp.p cc5] 29))
    replace O2 := Lib.hid (O2.out.keep (below_new (Below.refl _ _) (.cells #[.slice A5 tp.n ca5, .slice C5 tp.m cb5, .int .i64 tp.c, .slice D5 tp.p cc5] 29)))
    replace K2 := Lib.hid (K2.out.alloc (.cells #[.slice A5 tp.n ca5, .slice C5 tp.m cb5, .int .i64 tp.c, .slice D5 tp.p cc5] 29))
    replace O3 := Lib.hid (O3.out.keep (below_new (Below.refl _ _) (.cells #[.slice A5 tp.n ca5, .slice C5 tp.m cb5, .int .i64 tp.c, .slice D5 tp.p cc5] 29)))
    replace K3 := Lib.hid (K3.out.alloc (.cells #[.slice A5 tp.n ca5, .slice C5 tp.m cb5, .int .i64 tp.c, .slice D5 tp.p cc5] 29))
    replace O4 := Lib.hid (O4.out.keep (below_new (Below.refl _ _) (.cells #[.slice A5 tp.n ca5, .slice C5 tp.m cb5, .int .i64 tp.c, .slice D5 tp.p cc5] 29)))
    replace K4 := Lib.hid (K4.out.alloc (.cells #[.slice A5 tp.n ca5, .slice C5 tp.m cb5, .int .i64 tp.c, .slice D5 tp.p cc5] 29))
    replace O5 := Lib.hid (O5.out.keep (below_new (Below.refl _ _) (.cells #[.slice A5 tp.n ca5, .slice C5 tp.m cb5, .int .i64 tp.c, .slice D5 tp.p cc5] 29)))
    have P := fun (W : World) (lo : Nat) (h1 : RowR W lo (.slice Aa n caa) n xs) (h2 : RowR W lo (.slice Ab m cab) m ys) => specPlainTransition_any _ _ lo n m xs ys c W h1.o h2.o (by omega) (by omega)
    rw [gob] at P
    replace P := Lib.hid P
    go_wp2_with fail
    refine (P.out _ _ Ra.out Rb.out).mono ?_
    rintro e w7 ⟨r, rfl, oa, hb⟩
    replace B0 := Lib.hid (below_on B0.out hb)
    replace Ra := Lib.hid (Ra.out.keep hb)
    replace Rb := Lib.hid (Rb.out.keep hb)
    replace O1 := Lib.hid (O1.out.keep hb)
    replace K1 := Lib.hid (K1.out.on hb)
    replace O2 := Lib.hid (O2.out.keep hb)
    replace K2 := Lib.hid (K2.out.on hb)
    replace O3 := Lib.hid (O3.out.keep hb)
    replace K3 := Lib.hid (K3.out.on hb)
    replace O4 := Lib.hid (O4.out.keep hb)
    replace K4 := Lib.hid (K4.out.on hb)
    replace O5 := Lib.hid (O5.out.keep hb)
    replace K5 := Lib.hid (K5.out.on hb)
    clear hb
    clear P
    rw [gtp] at oa
    obtain ⟨A6, ca6, C6, cb6, D6, cc6, rfl, -, -, -⟩ := oa.form
    have O6 := Lib.hid oa
    clear oa
    have K6 := Lib.hid (Blk.new w7 29 #[.slice A6 tp.n ca6, .slice C6 tp.m cb6, .int .i64 tp.c, .slice D6 tp.p cc6])
    replace B0 := Lib.hid (below_new B0.out (.cells #[.slice A6 tp.n ca6, .slice C6 tp.m cb6, .int .i64 tp.c, .slice D6 tp.p cc6] 29))
    replace Ra := Lib.hid (Ra.out.keep (below_new (Below.refl _ _) (.cells #[.slice A6 tp.n ca6, .slice C6 tp.m cb6, .int .i64 tp.c, .slice D6 tp.p cc6] 29)))
    replace Rb := Lib.hid (Rb.out.keep (below_new (Below.refl _ _) (.cells #[.slice A6 tp.n ca6, .slice C6 tp.m cb6, .int .i64 tp.c, .slice D6 tp.p cc6] 29)))
    replace O1 := Lib.hid (O1.out.keep (below_new (Below.refl _ _) (.cells #[.slice A6 tp.n ca6, .slice C6 tp.m cb6, .int .i64 tp.c, .slice D6 tp.p cc6] 29)))
    replace K1 := Lib.hid (K1.out.alloc (.cells #[.slice A6 tp.n ca6, .slice C6 tp.m cb6, .int .i64 tp.c, .slice D6 tp.p cc6] 29))
    replace O2 := Lib.hid (O2.out.keep (below_new (Below.refl _ _) (.cells #[.slice A6 tp.n ca6, .slice C6 tp.m cb6, .int .i64 tp.c, .slice D6 tp.p cc6] 29)))
    replace K2 := Lib.hid (K2.out.alloc (.cells #[.slice A6 tp.n ca6, .slice C6 tp.m cb6, .int .i64 tp.c, .slice D6 tp.p cc6] 29))
    replace O3 := Lib.hid (O3.out.keep (below_new (Below.refl _ _) (.cells #[.slice A6 tp.n ca6, .slice C6 tp.m cb6, .int .i64 tp.c, .slice D6 tp.p cc6] 29)))
    replace K3 := Lib.hid (K3.out.alloc (.cells #[.slice A6 tp.n ca6, .slice C6 tp.m cb6, .int .i64 tp.c, .slice D6 tp.p cc6] 29))
    replace O4 := Lib.hid (O4.out.keep (below_new (Below.refl _ _) (.cells #[.slice A6 tp.n ca6, .slice C6 tp.m cb6, .int .i64 tp.c, .slice D6 tp.p cc6] 29)))
    replace K4 := Lib.hid (K4.out.alloc (.cells #[.slice A6 tp.n ca6, .slice C6 tp.m cb6, .int .i64 tp.c, .slice D6 tp.p cc6] 29))
    replace O5 := Lib.hid (O5.out.keep (below_new (Below.refl _ _) (.cells #[.slice A6 tp.n ca6, .slice C6 tp.m cb6, .int .i64 tp.c, .slice D6 tp.p cc6] 29)))
    replace K5 := Lib.hid (K5.out.alloc (.cells #[.slice A6 tp.n ca6, .slice C6 tp.m cb6, .int .i64 tp.c, .slice D6 tp.p cc6] 29))
    replace O6 := Lib.hid (O6.out.keep (below_new (Below.refl _ _) (.cells #[.slice A6 tp.n ca6, .slice C6 tp.m cb6, .int .i64 tp.c, .slice D6 tp.p cc6] 29)))
    have no : (ob != ob) = false := by simp
    have GOB := Lib.hid gob
    have GTL := Lib.hid gtl
    have GTE := Lib.hid gte
    have GTP := Lib.hid gtp
    clear gob gtl gte gtp
    obtain ⟨x0, x1, x2, x3⟩ := K1.out.c4
    obtain ⟨y0, y1, y2, y3⟩ := K2.out.c4
    go_wp2_with fail
    refine (pSameTransition_same _ _ _ tl _ O1.out.rd O2.out.rd (Nat.le_refl _) HL.out).mono ?_
    rintro e w8 ⟨rfl, hb⟩
    replace B0 := Lib.hid (below_on B0.out hb)
    replace Ra := Lib.hid (Ra.out.keep hb)
    replace Rb := Lib.hid (Rb.out.keep hb)
    replace O1 := Lib.hid (O1.out.keep hb)
    replace K1 := Lib.hid (K1.out.on hb)
    replace O2 := Lib.hid (O2.out.keep hb)
    replace K2 := Lib.hid (K2.out.on hb)
    replace O3 := Lib.hid (O3.out.keep hb)
    replace K3 := Lib.hid (K3.out.on hb)
    replace O4 := Lib.hid (O4.out.keep hb)
    replace K4 := Lib.hid (K4.out.on hb)
    replace O5 := Lib.hid (O5.out.keep hb)
    replace K5 := Lib.hid (K5.out.on hb)
    replace O6 := Lib.hid (O6.out.keep hb)
    replace K6 := Lib.hid (K6.out.on hb)
    clear hb
    clear x0 x1 x2 x3 y0 y1 y2 y3
    obtain ⟨x0, x1, x2, x3⟩ := K3.out.c4
    obtain ⟨y0, y1, y2, y3⟩ := K4.out.c4
    go_wp2_with fail
    refine (pSameTransition_same _ _ _ te _ O3.out.rd O4.out.rd (Nat.le_refl _) HE.out).mono ?_
    rintro e w9 ⟨rfl, hb⟩
    replace B0 := Lib.hid (below_on B0.out hb)
    replace Ra := Lib.hid (Ra.out.keep hb)
    replace Rb := Lib.hid (Rb.out.keep hb)
    replace O1 := Lib.hid (O1.out.keep hb)
    replace K1 := Lib.hid (K1.out.on hb)
    replace O2 := Lib.hid (O2.out.keep hb)
    replace K2 := Lib.hid (K2.out.on hb)
    replace O3 := Lib.hid (O3.out.keep hb)
    replace K3 := Lib.hid (K3.out.on hb)
    replace O4 := Lib.hid (O4.out.keep hb)
    replace K4 := Lib.hid (K4.out.on hb)
    replace O5 := Lib.hid (O5.out.keep hb)
    replace K5 := Lib.hid (K5.out.on hb)
    replace O6 := Lib.hid (O6.out.keep hb)
    replace K6 := Lib.hid (K6.out.on hb)
    clear hb
    clear x0 x1 x2 x3 y0 y1 y2 y3
    obtain ⟨x0, x1, x2, x3⟩ := K5.out.c4
    obtain ⟨y0, y1, y2, y3⟩ := K6.out.c4
    go_wp2_with fail
    refine (pSameTransition_same _ _ _ tp _ O5.out.rd O6.out.rd (Nat.le_refl _) HP.out).mono ?_
    rintro e w10 ⟨rfl, hb⟩
    replace B0 := Lib.hid (below_on B0.out hb)
    replace Ra := Lib.hid (Ra.out.keep hb)
    replace Rb := Lib.hid (Rb.out.keep hb)
    replace O1 := Lib.hid (O1.out.keep hb)
    replace K1 := Lib.hid (K1.out.on hb)
    replace O2 := Lib.hid (O2.out.keep hb)
    replace K2 := Lib.hid (K2.out.on hb)
    replace O3 := Lib.hid (O3.out.keep hb)
    replace K3 := Lib.hid (K3.out.on hb)
    replace O4 := Lib.hid (O4.out.keep hb)
    replace K4 := Lib.hid (K4.out.on hb)
    replace O5 := Lib.hid (O5.out.keep hb)
    replace K5 := Lib.hid (K5.out.on hb)
    replace O6 := Lib.hid (O6.out.keep hb)
    replace K6 := Lib.hid (K6.out.on hb)
    clear hb
    clear x0 x1 x2 x3 y0 y1 y2 y3
    have HC := Lib.hid (fun f => trn_c w w10 B0.out Az nz cz (H1.out.kept B0.out) hmz n m xs ys c ob GOB.out _ cab Ab Rb.out w2.heap.size _ A1 C1 D1 ca1 cb1 cc1 (by rw [GTL.out]; exact ⟨K1.out, O1.out, HL.out⟩) w3.heap.size _ A2 C2 D2 ca2 cb2 cc2 (by rw [GTL.out]; exact ⟨K2.out, O2.out, HL.out⟩) w4.heap.size _ A3 C3 D3 ca3 cb3 cc3 (by rw [GTE.out]; exact ⟨K3.out, O3.out, HE.out⟩) w6.heap.size _ A5 C5 D5 ca5 cb5 cc5 (by rw [GTP.out]; exact ⟨K5.out, O5.out, HP.out⟩) f)
    go_upto_if 143 with (fail)
    go_step
    go_step
    go_step
    go_step
    repeat (first | exact wp_of_fn (by kernel_rfl) HC.out | go_step)
end Go.Proofs.Ytnlneblipedddaa
