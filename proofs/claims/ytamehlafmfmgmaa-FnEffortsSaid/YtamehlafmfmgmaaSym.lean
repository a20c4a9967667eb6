/- Contract of the merge of two neighbouring parts of a slice of carries (of the library's stable sort). Conditions: the parts are in order, not empty, and lie within the slice. -/
import Derived.Test.YtamehlafmfmgmaaSymEnd
namespace Go.Proofs.Ytamehlafmfmgmaa
open Go.RowKit

set_option maxRecDepth 100000 in
set_option maxHeartbeats 4000000 in
theorem sym_s (lo g cap n N a m b md nn : Nat) (P X Y S : List Car) (w W : World) (hrec : SymOk lo g cap n N) (hn : n ≤ 1000000) (hP : P.length = a) (hX : a + X.length = m) (hY : m + Y.length = b) (hx : 0 < X.length) (hy : 0 < Y.length) (emd : (a + b) / 2 = md) (enn : md + m = nn)
    (hN : b ≤ a + N + 1) (wx : Weak X) (wy : Weak Y) (h : Cs w W lo g cap n (P ++ (X ++ (Y ++ S)))) (fz : Nat → Value) :
    Code.wp Try.prog (tailOf 6 symBody) (bodyPost Try.prog Try.f57 (SymR w lo g cap n P (X ++ Y) S)) ⟨#[.slice (some ⟨g, 0, none⟩) n cap, .int .i64 a, .int .i64 m, .int .i64 b, cmpF, fz 5, fz 6, fz 7, fz 8, fz 9, fz 10, fz 11, fz 12, fz 13, fz 14, fz 15, fz 16, fz 17, .int .i64 md, .int .i64 nn, .int .i64 (lo0 a m b : Nat), .int .i64 (hi0 a m b : Nat), fz 22, fz 23, fz 24, fz 25, fz 26, fz 27, fz 28, fz 29, fz 30, fz 31, fz 32, fz 33, fz 34, fz 35, fz 36, fz 37, fz 38, fz 39, fz 40, fz 41, fz 42, fz 43, fz 44, fz 45, fz 46, fz 47, fz 48, fz 49, fz 50, fz 51, fz 52, fz 53, fz 54, fz 55, fz 56, fz 57, fz 58, fz 59, fz 60, fz 61, fz 62, fz 63, fz 64, fz 65, fz 66, fz 67, fz 68, fz 69, fz 70, fz 71, fz 72, fz 73, fz 74, fz 75, fz 76, fz 77, fz 78, fz 79, fz 80, fz 81, fz 82, fz 83, fz 84, fz 85, fz 86, fz 87, fz 88, fz 89, fz 90, fz 91, fz 92, fz 93, fz 94, fz 95, fz 96, fz 97, fz 98, fz 99, fz 100, fz 101, fz 102, fz 103, fz 104, fz 105, fz 106, fz 107, fz 108, fz 109, fz 110, fz 111, fz 112, fz 113, fz 114, fz 115, fz 116, fz 117, fz 118, fz 119, fz 120, fz 121, fz 122, fz 123, fz 124, fz 125, fz 126, fz 127, fz 128, fz 129, fz 130, fz 131, fz 132, fz 133, fz 134, fz 135, fz 136, fz 137, fz 138, fz 139, fz 140, fz 141, fz 142, fz 143, fz 144, fz 145, fz 146, fz 147, fz 148, fz 149, fz 150, fz 151, fz 152, fz 153, fz 154, fz 155, fz 156, fz 157, fz 158, fz 159, fz 160, fz 161, fz 162, fz 163, fz 164, fz 165, fz 166, fz 167, fz 168, fz 169, fz 170, fz 171, fz 172, fz 173, fz 174, fz 175, fz 176, fz 177, fz 178, fz 179, fz 180, fz 181, fz 182, fz 183, fz 184, fz 185, fz 186, fz 187, fz 188, fz 189, fz 190, fz 191, fz 192, fz 193, fz 194, fz 195, fz 196, fz 197, fz 198, fz 199, fz 200, fz 201, fz 202, fz 203, fz 204, fz 205, fz 206, fz 207, fz 208, fz 209, fz 210, fz 211, fz 212, fz 213, fz 214, fz 215, fz 216, fz 217, fz 218, fz 219], []⟩ W := by
  obtain ⟨l, el⟩ : ∃ l, P ++ (X ++ (Y ++ S)) = l := ⟨_, rfl⟩
  rw [el] at h
  have hln := h.len
  have hbn : b ≤ n := by rw [← el] at hln; simp at hln; omega
  have H := Lib.hid h
  have HR := Lib.hid hrec
  have HL := Lib.hid hln
  obtain ⟨s0, es0⟩ : ∃ q, lo0 a m b = q := ⟨_, rfl⟩
  obtain ⟨r0, er0⟩ : ∃ q, hi0 a m b = q := ⟨_, rfl⟩
  have bnd : a ≤ s0 ∧ s0 ≤ r0 ∧ r0 ≤ m ∧ r0 ≤ md ∧ nn - s0 ≤ b ∧ m ≤ nn - r0 := by
    rw [← es0, ← er0]
    unfold lo0 hi0
    by_cases hc : m > (a + b) / 2
    · rw [if_pos hc, if_pos hc]; omega
    · rw [if_neg hc, if_neg hc]; omega
  obtain ⟨b1, b2, b3, b4, b5, b6⟩ := bnd
  have hsplit : ∀ st, s0 ≤ st → st ≤ r0 → (s0 < st → ¬ carLt (l.getD (nn - 1 - (st - 1)) c0) (l.getD (st - 1) c0)) → (st < r0 → carLt (l.getD (nn - 1 - st) c0) (l.getD st c0)) →
      ∃ A B C D, X = A ++ B ∧ Y = C ++ D ∧ A.length = st - a ∧ C.length = nn - st - m ∧ Before A D ∧ Before C B ∧ a ≤ st ∧ st ≤ m ∧ st ≤ md ∧ m ≤ nn - st ∧ nn - st ≤ b ∧ md ≤ nn - st := by
    intro st h1 h2 f1 f2
    subst emd enn
    exact sym_split el.symm hP hX hY hx hy wx wy (by rw [es0]; exact h1) (by rw [er0]; exact h2) (by rw [es0]; exact f1) (by rw [er0]; exact f2)
  rw [es0, er0]
  have HSP := Lib.hid hsplit
  have EL := Lib.hid el
  have HQ := Lib.hid (And.intro hP (And.intro hX (And.intro hY (And.intro emd enn))))
  obtain ⟨pp, epp⟩ : ∃ q, nn - 1 = q := ⟨_, rfl⟩
  have hm1 : 1 ≤ nn := by omega
  have q0 : (nn : Int) - 1 = (pp : Int) := by omega
  clear h hrec hln hsplit el es0 er0 hP hX hY emd enn
  have EPP := Lib.hid epp
  clear epp
  conv => arg 2; whnf
  go_wp2_with fail
  clear q0
  go_loopw [20, 21] (fun vi vj wr => ∃ i j : Nat, vi = .int .i64 i ∧ vj = .int .i64 j ∧ s0 ≤ i ∧ i ≤ j ∧ j ≤ r0 ∧ (s0 < i → ¬ carLt (l.getD (nn - 1 - (i - 1)) c0) (l.getD (i - 1) c0)) ∧ (j < r0 → carLt (l.getD (nn - 1 - j) c0) (l.getD j c0)) ∧ Cs w wr lo g cap n l) (fun vi vj _ => (intOf vj).toNat - (intOf vi).toNat)
  case atStart => exact ⟨s0, r0, rfl, rfl, Nat.le_refl _, b2, Nat.le_refl _, fun h => absurd h (by omega), fun h => absurd h (by omega), H.out⟩
  case round =>
    obtain ⟨i, j, rfl, rfl, hi, hij, hj, f1, f2, hc⟩ := hrel
    have F1 := Lib.hid f1
    have F2 := Lib.hid f2
    have HC := Lib.hid hc
    clear f1 f2 hc
    by_cases hlt : i < j
    · obtain ⟨hh, ehh⟩ : ∃ q, (i + j) / 2 = q := ⟨_, rfl⟩
      have k1 : i ≤ hh := by omega
      have k2 : hh < j := by omega
      have eh : ((i : Int) + (j : Int)) / 2 = (hh : Int) := by omega
      obtain ⟨pc, epc⟩ : ∃ q, nn - 1 - hh = q := ⟨_, rfl⟩
      have ep : (pp : Int) - (hh : Int) = (pc : Int) := by have := EPP.out; omega
      have hpn : pc < n := by omega
      have x1 : IntKind.i64.wrap (pc : Int) = (pc : Int) := IntWalk.i64_in _ (by omega)
      clear ehh
      obtain ⟨x, ex⟩ : ∃ x, l.getD pc c0 = x := ⟨_, rfl⟩
      obtain ⟨y, ey⟩ : ∃ y, l.getD hh c0 = y := ⟨_, rfl⟩
      have EX := Lib.hid ex
      have EY := Lib.hid ey
      have EP := Lib.hid epc
      have okx : carOk x := by rw [← ex]; exact HC.out.ok _ (getD_mem (by rw [HL.out]; omega))
      have oky : carOk y := by rw [← ey]; exact HC.out.ok _ (getD_mem (by rw [HL.out]; omega))
      clear ex ey epc
      obtain ⟨p, q, f, t⟩ := x
      obtain ⟨p', q', f', t'⟩ := y
      obtain ⟨u0, u1, u2, u3⟩ := HC.out.cells (i := pc) (by omega) EX.out
      obtain ⟨v0, v1, v2, v3⟩ := HC.out.cells (i := hh) (by omega) EY.out
      have y1 : (0 : Int) ≤ (hh : Int) := by omega
      have y2 : (hh : Int) < (n : Int) := by omega
      have y3 : (0 : Int) ≤ (pc : Int) := by omega
      have y4 : (pc : Int) < (n : Int) := by omega
      have hP := fun W => compareCarries_any p q f t p' q' f' t' W okx oky
      have hcl := cmp_lt (c := (p, q, f, t)) (d := (p', q', f', t'))
      obtain ⟨cv, ecv⟩ : ∃ cv, cmpV q f q' f' = cv := ⟨_, rfl⟩
      simp only at hcl
      rw [ecv] at hP hcl
      have HPP := Lib.hid hP
      have HCL := Lib.hid hcl
      clear okx oky hP hcl ecv
      by_cases hcv : cv < 0
      · have d2 : decide (cv < 0) = true := by simpa using hcv
        go_wp2_with fail
        go_region_held3 (fun W => W.cell? ⟨g, pc * 4, none⟩ = some (.int .i64 p) ∧ W.cell? ⟨g, pc * 4 + 1, none⟩ = some (.int .i64 q) ∧ W.cell? ⟨g, pc * 4 + 2, none⟩ = some (.int .i64 f) ∧ W.cell? ⟨g, pc * 4 + 3, none⟩ = some (.int .i64 t) ∧ W.cell? ⟨g, hh * 4, none⟩ = some (.int .i64 p') ∧ W.cell? ⟨g, hh * 4 + 1, none⟩ = some (.int .i64 q') ∧ W.cell? ⟨g, hh * 4 + 2, none⟩ = some (.int .i64 f') ∧ W.cell? ⟨g, hh * 4 + 3, none⟩ = some (.int .i64 t') ∧ Below wr.heap.size wr W)
          (first | exact ⟨u0, u1, u2, u3, v0, v1, v2, v3, (Below.refl _ _).drew⟩ | (go_split_ands; exact ⟨cell_on hb2 (by assumption), cell_on hb2 (by assumption), cell_on hb2 (by assumption), cell_on hb2 (by assumption), cell_on hb2 (by assumption), cell_on hb2 (by assumption), cell_on hb2 (by assumption), cell_on hb2 (by assumption), below_on (by assumption) hb2⟩) | go_keep)
          (first | (go_at_call 38; refine (HPP.out _).mono ?_; rintro e w2 ⟨rfl, hb2⟩))
        go_split_ands
        rename_i hb9
        have HB2 := Lib.hid hb9
        clear hb9
        rename World => Wx
        clear u0 u1 u2 u3 v0 v1 v2 v3
        go_wp2_with fail
        go_roundw
        case rel => exact ⟨i, hh, rfl, rfl, by omega, by omega, by omega, F1.out, fun _ => by rw [EP.out, EX.out, EY.out]; exact HCL.out.1 hcv, HC.out.below HB2.out⟩
        case measure => simp [intOf]; omega
      · have d2 : decide (cv < 0) = false := by simpa using hcv
        go_wp2_with fail
        go_region_held3 (fun W => W.cell? ⟨g, pc * 4, none⟩ = some (.int .i64 p) ∧ W.cell? ⟨g, pc * 4 + 1, none⟩ = some (.int .i64 q) ∧ W.cell? ⟨g, pc * 4 + 2, none⟩ = some (.int .i64 f) ∧ W.cell? ⟨g, pc * 4 + 3, none⟩ = some (.int .i64 t) ∧ W.cell? ⟨g, hh * 4, none⟩ = some (.int .i64 p') ∧ W.cell? ⟨g, hh * 4 + 1, none⟩ = some (.int .i64 q') ∧ W.cell? ⟨g, hh * 4 + 2, none⟩ = some (.int .i64 f') ∧ W.cell? ⟨g, hh * 4 + 3, none⟩ = some (.int .i64 t') ∧ Below wr.heap.size wr W)
          (first | exact ⟨u0, u1, u2, u3, v0, v1, v2, v3, (Below.refl _ _).drew⟩ | (go_split_ands; exact ⟨cell_on hb2 (by assumption), cell_on hb2 (by assumption), cell_on hb2 (by assumption), cell_on hb2 (by assumption), cell_on hb2 (by assumption), cell_on hb2 (by assumption), cell_on hb2 (by assumption), cell_on hb2 (by assumption), below_on (by assumption) hb2⟩) | go_keep)
          (first | (go_at_call 38; refine (HPP.out _).mono ?_; rintro e w2 ⟨rfl, hb2⟩))
        go_split_ands
        rename_i hb9
        have HB2 := Lib.hid hb9
        clear hb9
        rename World => Wx
        clear u0 u1 u2 u3 v0 v1 v2 v3
        go_wp2_with fail
        go_roundw
        case rel => exact ⟨hh + 1, j, by go_num, rfl, by omega, by omega, by omega, fun _ => by rw [Nat.add_sub_cancel, EP.out, EX.out, EY.out]; exact fun h => absurd (HCL.out.2 h) (by omega), F2.out, HC.out.below HB2.out⟩
        case measure => simp [intOf]; omega
    · obtain rfl : i = j := by omega
      obtain ⟨A, B, C, D, eX, eY, hA, hC, hAD, hCB, c1, c2, c3, c4, c5, c6⟩ := HSP.out i hi hj F1.out F2.out
      obtain ⟨hP, hX, hY, emd, enn⟩ := HQ.out
      have e2 : (nn : Int) - (i : Int) = ((nn - i : Nat) : Int) := by omega
      obtain ⟨en, een⟩ : ∃ q, nn - i = q := ⟨_, rfl⟩
      rw [een] at e2 hC c4 c5 c6
      subst eX eY
      rw [List.length_append] at hX hY hx hy
      have hcs := HC.out
      rw [← EL.out] at hcs
      have wA := (weak_two.1 wx).1
      have wB := (weak_two.1 wx).2.1
      have wC := (weak_two.1 wy).1
      have wD := (weak_two.1 wy).2.1
      have HFN := Lib.hid (fun f => sym_a lo g cap n N a m b md i en P A B C D S (A ++ B ++ (C ++ D)) w wr HR.out hn hP (by omega) (by omega) (by omega) (by omega) (by omega) (by omega) (by omega) (by omega) wA wB wC wD
        (fun Z1 Z2 p1 w1 p2 w2 => merge_parts wx wy hAD hCB p1 p2 w1 w2) (by simpa using hcs) f)
      clear hA hC hAD hCB hP hX hY emd enn een hcs wA wB wC wD
      go_upto_region 38 with (fail)
      go_step
      go_step
      go_step
      go_step
      go_step
      go_step
      go_step
      go_step
      go_step
      go_step
      go_step
      go_step
      go_step
      go_step
      go_step
      go_step
      exact wp_of_fn (by kernel_rfl) HFN.out
theorem sym_mono {lo g cap n N M : Nat} (h : SymOk lo g cap n N) (hM : M ≤ N) : SymOk lo g cap n M := fun P X Y S a m b w h1 h2 h3 h4 h5 h6 => h P X Y S a m b w h1 h2 h3 h4 h5 (by omega)
set_option maxRecDepth 100000 in
set_option maxHeartbeats 4000000 in
theorem sym_step (lo g cap n N : Nat) (hn : n ≤ 1000000) (hrec : SymOk lo g cap n N) : SymOk lo g cap n (N + 1) := by
  intro P X Y S a m b w hP hX hY hx hy hN wx wy h
  by_cases h1 : X.length = 1
  · obtain ⟨x, X', rfl⟩ := first_of hx
    obtain rfl : X' = [] := List.length_eq_zero_iff.1 (by simp at h1; simp [h1])
    exact symOne_any lo g cap n a m b P Y S _ x w rfl hP (by simpa using hX) hY hy wy h hn
  · by_cases h2 : Y.length = 1
    · obtain ⟨y, Y', rfl⟩ := first_of hy
      obtain rfl : Y' = [] := List.length_eq_zero_iff.1 (by simp at h2; simp [h2])
      exact symLast_any lo g cap n a m b P X S _ y w rfl hP hX (by simpa using hY) (by omega) wx h hn
    · obtain ⟨md, emd⟩ : ∃ q, (a + b) / 2 = q := ⟨_, rfl⟩
      obtain ⟨nn, enn⟩ : ∃ q, md + m = q := ⟨_, rfl⟩
      have HT := Lib.hid (fun f => sym_s lo g cap n N a m b md nn P X Y S w w hrec hn hP hX hY hx hy emd enn (by omega) wx wy h f)
      have e0 : ((m : Int) - (a : Int) == 1) = false := by simp; omega
      have e1 : ((b : Int) - (m : Int) == 1) = false := by simp; omega
      have e2 : ((a : Int) + (b : Int)) / 2 = (md : Int) := by omega
      have e3 : (md : Int) + (m : Int) = (nn : Int) := by omega
      have hbn : b ≤ n := by have := h.len; simp at this; omega
      have k1 : a < m := by omega
      have k2 : m < b := by omega
      have k3 : md < b := by omega
      have k4 : nn < md + b := by omega
      by_cases hm : md < m
      · have d : decide ((md : Int) < (m : Int)) = true := by simp; omega
        have k6 : b ≤ nn := by omega
        obtain ⟨s0, es0⟩ : ∃ q, nn - b = q := ⟨_, rfl⟩
        have e4 : (nn : Int) - (b : Int) = (s0 : Int) := by omega
        have E1 := Lib.hid (show lo0 a m b = s0 by unfold lo0; rw [emd, if_pos hm, enn, es0])
        have E2 := Lib.hid (show hi0 a m b = md by unfold hi0; rw [emd, if_pos hm])
        rw [E1.out, E2.out] at HT
        clear hP hX hY hx hy h emd enn es0 wx wy hN h1 h2 hrec
        go_enter Try.func57, Try.ntmps57
        go_upto_region 29 with (fail)
        go_step
        go_step
        go_step
        go_step
        go_step
        go_step
        go_step
        go_step
        go_step
        go_step
        exact wp_of_fn (by kernel_rfl) HT.out
      · have d : decide ((md : Int) < (m : Int)) = false := by simp; omega
        have E1 := Lib.hid (show lo0 a m b = a by unfold lo0; rw [emd, if_neg hm])
        have E2 := Lib.hid (show hi0 a m b = m by unfold hi0; rw [emd, if_neg hm])
        rw [E1.out, E2.out] at HT
        clear hP hX hY hx hy h emd enn wx wy hN h1 h2 hrec
        go_enter Try.func57, Try.ntmps57
        go_upto_region 31 with (fail)
        go_step
        go_step
        go_step
        go_step
        go_step
        go_step
        go_step
        go_step
        go_step
        go_step
        exact wp_of_fn (by kernel_rfl) HT.out
theorem sym_all (lo g cap n : Nat) (hn : n ≤ 1000000) : ∀ N, SymOk lo g cap n N
  | 0 => fun P X Y S a m b w _ _ _ hx _ hN => absurd hN (by omega)
  | N + 1 => sym_step lo g cap n N hn (sym_all lo g cap n hn N)
end Go.Proofs.Ytamehlafmfmgmaa
