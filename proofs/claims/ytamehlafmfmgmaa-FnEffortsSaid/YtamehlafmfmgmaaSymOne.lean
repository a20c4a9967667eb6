/- Contract of the merge of two neighbouring parts of a slice of carries (of the library's stable sort) where the left part has one element. Conditions: the parts are in order and lie within the slice. -/
import Derived.Test.YtamehlafmfmgmaaInsert
namespace Go.Proofs.Ytamehlafmfmgmaa
open Go.RowKit

theorem ins_weak' {U V : List Car} {x : Car} (hw : Weak (U ++ V)) (h1 : ∀ a ∈ U, ¬ carLt x a) (h2 : ∀ v ∈ V, ¬ carLt v x) : Weak (U ++ x :: V) := by
  have := weak_ins (l := U ++ V) (c := x) (k := U.length) hw (by rw [List.take_left]; exact h1) (by rw [List.drop_left]; exact h2)
  rw [List.take_left, List.drop_left] at this
  exact this
theorem ins_first {V : List Car} {x y : Car} (hw : Weak (y :: V)) (h : ¬ carLt y x) : ∀ a ∈ y :: V, ¬ carLt a x := fun a ha => carLt_trans h (before_first hw a ha)
set_option maxRecDepth 100000 in
set_option maxHeartbeats 4000000 in
theorem symOne_any (lo g cap n a m b : Nat) (P Y S l : List Car) (x : Car) (w : World) (el : l = P ++ (x :: (Y ++ S))) (ha : P.length = a) (hm : a + 1 = m) (hb : m + Y.length = b) (hy : 0 < Y.length) (wy : Weak Y) (h : Cs w w lo g cap n l) (hn : n ≤ 1000000) :
    Calls Try.prog 57 #[.slice (some ⟨g, 0, none⟩) n cap, .int .i64 a, .int .i64 m, .int .i64 b, cmpF] w fun e w' => e = .returned (.tuple #[]) ∧ ∃ Z, Z.Perm (x :: Y) ∧ Weak Z ∧ Cs w w' lo g cap n (P ++ (Z ++ S)) := by
  have hbn : b ≤ n := by have := h.len; rw [el] at this; simp at this; omega
  have H := Lib.hid h
  have EL := Lib.hid el
  have HA := Lib.hid ha
  have HM := Lib.hid hm
  have HY := Lib.hid hb
  have WY := Lib.hid wy
  have e1 : (m : Int) - (a : Int) = 1 := by omega
  have hln : l.length = n := h.len
  have HL := Lib.hid hln
  have gx : l.getD a c0 = x := by rw [el]; exact getD_at _ _ _ ha.symm
  have GX := Lib.hid gx
  clear h el ha wy hln gx
  have hab : a < b := by omega
  have hmb : m ≤ b := by omega
  have ham : a < m := by omega
  clear hm hb
  go_enter Try.func57, Try.ntmps57
  go_wp2_with fail
  clear e1
  go_loopw [10, 11] (fun vi vj wr => ∃ i j : Nat, vi = .int .i64 i ∧ vj = .int .i64 j ∧ m ≤ i ∧ i ≤ j ∧ j ≤ b ∧ (m < i → carLt (l.getD (i - 1) c0) x) ∧ (j < b → ¬ carLt (l.getD j c0) x) ∧ Cs w wr lo g cap n l) (fun vi vj _ => (intOf vj).toNat - (intOf vi).toNat)
  case atStart => exact ⟨m, b, rfl, rfl, Nat.le_refl _, hmb, Nat.le_refl _, fun h => absurd h (by omega), fun h => absurd h (by omega), H.out⟩
  case round =>
    obtain ⟨i, j, rfl, rfl, hi, hij, hj, f1, f2, hc⟩ := hrel
    have F1 := Lib.hid f1
    have F2 := Lib.hid f2
    have HC := Lib.hid hc
    clear f1 f2 hc
    by_cases hlt : i < j
    · obtain ⟨hh, ehh⟩ : ∃ q, (i + j) / 2 = q := ⟨_, rfl⟩
      have k1 : i ≤ hh := by omega
      have k2 : hh < j := by omega
      have eh : ((i : Int) + (j : Int)) / 2 = (hh : Int) := by omega
      clear ehh
      obtain ⟨y, ey⟩ : ∃ y, l.getD hh c0 = y := ⟨_, rfl⟩
      have EY := Lib.hid ey
      have okx : carOk x := by rw [← GX.out]; exact HC.out.ok _ (getD_mem (by rw [HL.out]; omega))
      have oky : carOk y := by rw [← ey]; exact HC.out.ok _ (getD_mem (by rw [HL.out]; omega))
      clear ey
      obtain ⟨p', q', f', t'⟩ := x
      obtain ⟨p, q, f, t⟩ := y
      obtain ⟨u0, u1, u2, u3⟩ := HC.out.cells (i := hh) (by omega) EY.out
      obtain ⟨v0, v1, v2, v3⟩ := HC.out.cells (i := a) (by omega) GX.out
      have y1 : (0 : Int) ≤ (hh : Int) := by omega
      have y2 : (hh : Int) < (n : Int) := by omega
      have y3 : (0 : Int) ≤ (a : Int) := by omega
      have y4 : (a : Int) < (n : Int) := by omega
      have hP := fun W => compareCarries_any p q f t p' q' f' t' W oky okx
      have hcl := cmp_lt (c := (p, q, f, t)) (d := (p', q', f', t'))
      obtain ⟨cv, ecv⟩ : ∃ cv, cmpV q f q' f' = cv := ⟨_, rfl⟩
      simp only at hcl
      rw [ecv] at hP hcl
      have HPP := Lib.hid hP
      have HCL := Lib.hid hcl
      clear okx oky hP hcl ecv
      by_cases hcv : cv < 0
      · have d2 : decide (cv < 0) = true := by simpa using hcv
        go_wp2_with fail
        go_region_held3 (fun W => W.cell? ⟨g, hh * 4, none⟩ = some (.int .i64 p) ∧ W.cell? ⟨g, hh * 4 + 1, none⟩ = some (.int .i64 q) ∧ W.cell? ⟨g, hh * 4 + 2, none⟩ = some (.int .i64 f) ∧ W.cell? ⟨g, hh * 4 + 3, none⟩ = some (.int .i64 t) ∧ W.cell? ⟨g, a * 4, none⟩ = some (.int .i64 p') ∧ W.cell? ⟨g, a * 4 + 1, none⟩ = some (.int .i64 q') ∧ W.cell? ⟨g, a * 4 + 2, none⟩ = some (.int .i64 f') ∧ W.cell? ⟨g, a * 4 + 3, none⟩ = some (.int .i64 t') ∧ Below wr.heap.size wr W)
          (first | exact ⟨u0, u1, u2, u3, v0, v1, v2, v3, (Below.refl _ _).drew⟩ | (go_split_ands; exact ⟨cell_on hb2 (by assumption), cell_on hb2 (by assumption), cell_on hb2 (by assumption), cell_on hb2 (by assumption), cell_on hb2 (by assumption), cell_on hb2 (by assumption), cell_on hb2 (by assumption), cell_on hb2 (by assumption), below_on (by assumption) hb2⟩) | go_keep)
          (first | (go_at_call 38; refine (HPP.out _).mono ?_; rintro e w2 ⟨rfl, hb2⟩))
        go_split_ands
        rename_i hb9
        have HB2 := Lib.hid hb9
        clear hb9
        rename World => Wx
        clear u0 u1 u2 u3 v0 v1 v2 v3
        go_wp2_with fail
        go_roundw
        case rel => exact ⟨hh + 1, j, by go_num, rfl, by omega, by omega, by omega, fun _ => by rw [Nat.add_sub_cancel, EY.out]; exact HCL.out.1 hcv, F2.out, HC.out.below HB2.out⟩
        case measure => simp [intOf]; omega
      · have d2 : decide (cv < 0) = false := by simpa using hcv
        go_wp2_with fail
        go_region_held3 (fun W => W.cell? ⟨g, hh * 4, none⟩ = some (.int .i64 p) ∧ W.cell? ⟨g, hh * 4 + 1, none⟩ = some (.int .i64 q) ∧ W.cell? ⟨g, hh * 4 + 2, none⟩ = some (.int .i64 f) ∧ W.cell? ⟨g, hh * 4 + 3, none⟩ = some (.int .i64 t) ∧ W.cell? ⟨g, a * 4, none⟩ = some (.int .i64 p') ∧ W.cell? ⟨g, a * 4 + 1, none⟩ = some (.int .i64 q') ∧ W.cell? ⟨g, a * 4 + 2, none⟩ = some (.int .i64 f') ∧ W.cell? ⟨g, a * 4 + 3, none⟩ = some (.int .i64 t') ∧ Below wr.heap.size wr W)
          (first | exact ⟨u0, u1, u2, u3, v0, v1, v2, v3, (Below.refl _ _).drew⟩ | (go_split_ands; exact ⟨cell_on hb2 (by assumption), cell_on hb2 (by assumption), cell_on hb2 (by assumption), cell_on hb2 (by assumption), cell_on hb2 (by assumption), cell_on hb2 (by assumption), cell_on hb2 (by assumption), cell_on hb2 (by assumption), below_on (by assumption) hb2⟩) | go_keep)
          (first | (go_at_call 38; refine (HPP.out _).mono ?_; rintro e w2 ⟨rfl, hb2⟩))
        go_split_ands
        rename_i hb9
        have HB2 := Lib.hid hb9
        clear hb9
        rename World => Wx
        clear u0 u1 u2 u3 v0 v1 v2 v3
        go_wp2_with fail
        go_roundw
        case rel => exact ⟨i, hh, rfl, rfl, by omega, by omega, by omega, F1.out, fun _ => by rw [EY.out]; exact fun h => absurd (HCL.out.2 h) (by omega), HC.out.below HB2.out⟩
        case measure => simp [intOf]; omega
    · obtain rfl : i = j := by omega
      obtain ⟨Y1, Y2, eY, hY1⟩ := part_two (l := Y) (k := i - m) (by have := HY.out; omega)
      have LY := Lib.hid hY1
      have HW := Lib.hid (show Weak (Y1 ++ x :: Y2) by
        have wy := WY.out
        rw [eY] at wy
        refine ins_weak' wy ?_ ?_
        · intro z hz
          have hpos : 0 < Y1.length := by
            rcases Nat.eq_zero_or_pos Y1.length with h0 | h0
            · rw [List.length_eq_zero_iff.1 h0] at hz; cases hz
            · exact h0
          obtain ⟨Y1', u, rfl⟩ := last_of hpos
          have hg : l.getD (i - 1) c0 = u := by
            rw [EL.out, eY, show P ++ x :: ((Y1' ++ [u]) ++ Y2 ++ S) = (P ++ x :: Y1') ++ u :: (Y2 ++ S) by simp]
            apply getD_at
            have := HA.out; have := HM.out; simp at hY1 ⊢; omega
          have := F1.out (by have := LY.out; simp at this; omega)
          rw [hg] at this
          exact ins_last (weak_two.1 wy).1 (carLt_asym this) z hz
        · intro z hz
          have hpos : 0 < Y2.length := by
            rcases Nat.eq_zero_or_pos Y2.length with h0 | h0
            · rw [List.length_eq_zero_iff.1 h0] at hz; cases hz
            · exact h0
          obtain ⟨u, Y2', rfl⟩ := first_of hpos
          have hg : l.getD i c0 = u := by
            rw [EL.out, eY, show P ++ x :: (Y1 ++ u :: Y2' ++ S) = (P ++ x :: Y1) ++ u :: (Y2' ++ S) by simp]
            apply getD_at
            have := HA.out; have := HM.out; simp; omega
          have := F2.out (by have := HY.out; rw [eY] at this; simp at this; omega)
          rw [hg] at this
          exact ins_first (weak_two.1 wy).2.1 this z hz)
      have HPM := Lib.hid (show (Y1 ++ x :: Y2).Perm (x :: Y) by rw [eY]; exact List.perm_middle)
      have HC2 := Lib.hid (show Cs w wr lo g cap n (P ++ x :: (Y1 ++ (Y2 ++ S))) by have := HC.out; rw [EL.out, eY, List.append_assoc] at this; exact this)
      have EM := Lib.hid (show i = m + Y1.length by omega)
      have hi1 : 1 ≤ i := by omega
      clear eY hY1
      obtain ⟨wo, rfl⟩ : ∃ wo : World, wo = wr := ⟨_, rfl⟩
      go_wp2_with fail
      go_loopw [13] (fun vk wr => ∃ (k : Nat) (U V : List Car), vk = .int .i64 k ∧ k = a + U.length ∧ Y1 = U ++ V ∧ Cs w wr lo g cap n (P ++ (U ++ x :: (V ++ (Y2 ++ S))))) (fun vk _ => i - (intOf vk).toNat)
      case atStart => exact ⟨a, [], Y1, rfl, rfl, rfl, HC2.out⟩
      case round =>
        obtain ⟨k, U, V, rfl, hk, hv, hc⟩ := hrel
        have HU := Lib.hid hk
        have HV := Lib.hid hv
        have HC3 := Lib.hid hc
        clear hk hv hc
        have d1 : (1 : Int) ≤ (i : Int) := by omega
        have x0 := IntWalk.i64_in ((i : Int) - 1) (by omega)
        by_cases hki : k + 1 < i
        · have d2 : decide ((k : Int) < (i : Int) - 1) = true := by simp; omega
          obtain ⟨y, V', eV⟩ := first_of (l := V) (by have := HU.out; have := HV.out; have h2 := EM.out; have := HM.out; rw [HV.out] at h2; simp at h2; omega)
          have EV := Lib.hid eV
          have hmem := HC3.out
          have hln := hmem.len
          have hkn : k + 1 < n := by omega
          have hpk : (P ++ U).length = k := by rw [List.length_append, HA.out, HU.out]
          rw [eV, show P ++ (U ++ x :: ((y :: V') ++ (Y2 ++ S))) = (P ++ U) ++ x :: y :: (V' ++ (Y2 ++ S)) by simp] at hmem
          have gx : ((P ++ U) ++ x :: y :: (V' ++ (Y2 ++ S))).getD k c0 = x := getD_at _ _ _ hpk.symm
          have gy : ((P ++ U) ++ x :: y :: (V' ++ (Y2 ++ S))).getD (k + 1) c0 = y := by
            rw [show (P ++ U) ++ x :: y :: (V' ++ (Y2 ++ S)) = (P ++ U ++ [x]) ++ y :: (V' ++ (Y2 ++ S)) by simp]
            exact getD_at _ _ _ (by rw [List.length_append, hpk]; rfl)
          have HE := Lib.hid (show exch ((P ++ U) ++ x :: y :: (V' ++ (Y2 ++ S))) k (k + 1) = P ++ ((U ++ [y]) ++ x :: (V' ++ (Y2 ++ S))) by
            have := (exch_next (P ++ U) (V' ++ (Y2 ++ S)) y x).2
            rw [hpk] at this
            rw [this]; simp)
          obtain ⟨p, q, f, t⟩ := x
          obtain ⟨p', q', f', t'⟩ := y
          obtain ⟨u0, u1, u2, u3⟩ := hmem.cells (i := k) (by omega) gx
          obtain ⟨v0, v1, v2, v3⟩ := hmem.cells (i := k + 1) (by omega) gy
          have s0 := hmem.free (k * 4)
          have s1 := hmem.free (k * 4 + 1)
          have s2 := hmem.free (k * 4 + 2)
          have s3 := hmem.free (k * 4 + 3)
          have t0 := hmem.free ((k + 1) * 4)
          have t1 := hmem.free ((k + 1) * 4 + 1)
          have t2 := hmem.free ((k + 1) * 4 + 2)
          have t3 := hmem.free ((k + 1) * 4 + 3)
          have mixed : Try.prog.follows Departure.mixedOrders = true := by kernel_rfl
          have HMM := Lib.hid hmem
          have GGX := Lib.hid gx
          have GGY := Lib.hid gy
          have y1 : (0 : Int) ≤ (k : Int) := by omega
          have y2 : (0 : Int) ≤ (k : Int) + 1 := by omega
          have z1 : ((k : Int) + 1).toNat = k + 1 := by omega
          have r1 : (k : Int) < (n : Int) := by omega
          have r2 : (k : Int) + 1 < (n : Int) := by omega
          clear eV hmem gx gy hpk hln
          go_wp2_with fail
          go_big_region_o
          all_goals go_wp2
          go_roundw
          case rel =>
            refine ⟨k + 1, U ++ [(p', q', f', t')], V', by go_num, by rw [List.length_append]; have := HU.out; simp; omega, by rw [HV.out, EV.out]; simp, ?_⟩
            rw [← HE.out]
            refine Cs.drew ?_
            exact HMM.out.exch (by omega) (by omega) GGX.out GGY.out rfl
          case measure => simp [intOf]; omega
        · have d2 : decide ((k : Int) < (i : Int) - 1) = false := by simp; omega
          have hV : V = [] := List.length_eq_zero_iff.1 (by have := HU.out; have h1 := HV.out; have h2 := EM.out; have := HM.out; rw [h1, List.length_append] at h2; omega)
          go_wp2_with fail
          refine bodyPost_ret (results_none rfl _ _ _) rfl ?_
          refine ⟨rfl, _, HPM.out, HW.out, ?_⟩
          have := HC3.out
          rw [hV] at this
          rw [HV.out, hV]
          simpa using this
end Go.Proofs.Ytamehlafmfmgmaa
