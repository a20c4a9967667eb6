/- Contract of the merge of two neighbouring parts of a slice of carries (of the library's stable sort) where the right part has one element. Conditions: the parts are in order and lie within the slice. -/
import Derived.Test.YtamehlafmfmgmaaSymOne
namespace Go.Proofs.Ytamehlafmfmgmaa
open Go.RowKit

set_option maxRecDepth 100000 in
set_option maxHeartbeats 4000000 in
theorem symLast_any (lo g cap n a m b : Nat) (P X S l : List Car) (y : Car) (w : World) (el : l = P ++ (X ++ (y :: S))) (ha : P.length = a) (hm : a + X.length = m) (hb : m + 1 = b) (hx : 1 < X.length) (wx : Weak X) (h : Cs w w lo g cap n l) (hn : n ≤ 1000000) :
    Calls Try.prog 57 #[.slice (some ⟨g, 0, none⟩) n cap, .int .i64 a, .int .i64 m, .int .i64 b, cmpF] w fun e w' => e = .returned (.tuple #[]) ∧ ∃ Z, Z.Perm (X ++ [y]) ∧ Weak Z ∧ Cs w w' lo g cap n (P ++ (Z ++ S)) := by
  have hbn : b ≤ n := by have := h.len; rw [el] at this; simp at this; omega
  have H := Lib.hid h
  have EL := Lib.hid el
  have HA := Lib.hid ha
  have HM := Lib.hid hm
  have WX := Lib.hid wx
  have e0 : ((m : Int) - (a : Int) == 1) = false := by simp; omega
  have e1 : (b : Int) - (m : Int) = 1 := by omega
  have hln : l.length = n := h.len
  have HL := Lib.hid hln
  have gy : l.getD m c0 = y := by rw [el, ← List.append_assoc]; exact getD_at _ _ _ (by rw [List.length_append]; omega)
  have GY := Lib.hid gy
  clear h el ha wx hln gy
  have ham : a < m := by omega
  have hmb : m < b := by omega
  clear hm hb
  go_enter Try.func57, Try.ntmps57
  go_wp2_with fail
  clear e0 e1
  go_loopw [14, 15] (fun vi vj wr => ∃ i j : Nat, vi = .int .i64 i ∧ vj = .int .i64 j ∧ a ≤ i ∧ i ≤ j ∧ j ≤ m ∧ (a < i → ¬ carLt y (l.getD (i - 1) c0)) ∧ (j < m → carLt y (l.getD j c0)) ∧ Cs w wr lo g cap n l) (fun vi vj _ => (intOf vj).toNat - (intOf vi).toNat)
  case atStart => exact ⟨a, m, rfl, rfl, Nat.le_refl _, by omega, Nat.le_refl _, fun h => absurd h (by omega), fun h => absurd h (by omega), H.out⟩
  case round =>
    obtain ⟨i, j, rfl, rfl, hi, hij, hj, f1, f2, hc⟩ := hrel
    have F1 := Lib.hid f1
    have F2 := Lib.hid f2
    have HC := Lib.hid hc
    clear f1 f2 hc
    by_cases hlt : i < j
    · obtain ⟨hh, ehh⟩ : ∃ q, (i + j) / 2 = q := ⟨_, rfl⟩
      have k1 : i ≤ hh := by omega
      have k2 : hh < j := by omega
      have eh : ((i : Int) + (j : Int)) / 2 = (hh : Int) := by omega
      clear ehh
      obtain ⟨x, ex⟩ : ∃ x, l.getD hh c0 = x := ⟨_, rfl⟩
      have EX := Lib.hid ex
      have oky : carOk y := by rw [← GY.out]; exact HC.out.ok _ (getD_mem (by rw [HL.out]; omega))
      have okx : carOk x := by rw [← ex]; exact HC.out.ok _ (getD_mem (by rw [HL.out]; omega))
      clear ex
      obtain ⟨p, q, f, t⟩ := y
      obtain ⟨p', q', f', t'⟩ := x
      obtain ⟨u0, u1, u2, u3⟩ := HC.out.cells (i := m) (by omega) GY.out
      obtain ⟨v0, v1, v2, v3⟩ := HC.out.cells (i := hh) (by omega) EX.out
      have y1 : (0 : Int) ≤ (hh : Int) := by omega
      have y2 : (hh : Int) < (n : Int) := by omega
      have y3 : (0 : Int) ≤ (m : Int) := by omega
      have y4 : (m : Int) < (n : Int) := by omega
      have hP := fun W => compareCarries_any p q f t p' q' f' t' W oky okx
      have hcl := cmp_lt (c := (p, q, f, t)) (d := (p', q', f', t'))
      obtain ⟨cv, ecv⟩ : ∃ cv, cmpV q f q' f' = cv := ⟨_, rfl⟩
      simp only at hcl
      rw [ecv] at hP hcl
      have HPP := Lib.hid hP
      have HCL := Lib.hid hcl
      clear okx oky hP hcl ecv
      by_cases hcv : cv < 0
      · have d2 : decide (cv < 0) = true := by simpa using hcv
        go_wp2_with fail
        go_region_held3 (fun W => W.cell? ⟨g, m * 4, none⟩ = some (.int .i64 p) ∧ W.cell? ⟨g, m * 4 + 1, none⟩ = some (.int .i64 q) ∧ W.cell? ⟨g, m * 4 + 2, none⟩ = some (.int .i64 f) ∧ W.cell? ⟨g, m * 4 + 3, none⟩ = some (.int .i64 t) ∧ W.cell? ⟨g, hh * 4, none⟩ = some (.int .i64 p') ∧ W.cell? ⟨g, hh * 4 + 1, none⟩ = some (.int .i64 q') ∧ W.cell? ⟨g, hh * 4 + 2, none⟩ = some (.int .i64 f') ∧ W.cell? ⟨g, hh * 4 + 3, none⟩ = some (.int .i64 t') ∧ Below wr.heap.size wr W)
          (first | exact ⟨u0, u1, u2, u3, v0, v1, v2, v3, (Below.refl _ _).drew⟩ | (go_split_ands; exact ⟨cell_on hb2 (by assumption), cell_on hb2 (by assumption), cell_on hb2 (by assumption), cell_on hb2 (by assumption), cell_on hb2 (by assumption), cell_on hb2 (by assumption), cell_on hb2 (by assumption), cell_on hb2 (by assumption), below_on (by assumption) hb2⟩) | go_keep)
          (first | (go_at_call 38; refine (HPP.out _).mono ?_; rintro e w2 ⟨rfl, hb2⟩))
        go_split_ands
        rename_i hb9
        have HB2 := Lib.hid hb9
        clear hb9
        rename World => Wx
        clear u0 u1 u2 u3 v0 v1 v2 v3
        go_wp2_with fail
        go_roundw
        case rel => exact ⟨i, hh, rfl, rfl, by omega, by omega, by omega, F1.out, fun _ => by rw [EX.out]; exact HCL.out.1 hcv, HC.out.below HB2.out⟩
        case measure => simp [intOf]; omega
      · have d2 : decide (cv < 0) = false := by simpa using hcv
        go_wp2_with fail
        go_region_held3 (fun W => W.cell? ⟨g, m * 4, none⟩ = some (.int .i64 p) ∧ W.cell? ⟨g, m * 4 + 1, none⟩ = some (.int .i64 q) ∧ W.cell? ⟨g, m * 4 + 2, none⟩ = some (.int .i64 f) ∧ W.cell? ⟨g, m * 4 + 3, none⟩ = some (.int .i64 t) ∧ W.cell? ⟨g, hh * 4, none⟩ = some (.int .i64 p') ∧ W.cell? ⟨g, hh * 4 + 1, none⟩ = some (.int .i64 q') ∧ W.cell? ⟨g, hh * 4 + 2, none⟩ = some (.int .i64 f') ∧ W.cell? ⟨g, hh * 4 + 3, none⟩ = some (.int .i64 t') ∧ Below wr.heap.size wr W)
          (first | exact ⟨u0, u1, u2, u3, v0, v1, v2, v3, (Below.refl _ _).drew⟩ | (go_split_ands; exact ⟨cell_on hb2 (by assumption), cell_on hb2 (by assumption), cell_on hb2 (by assumption), cell_on hb2 (by assumption), cell_on hb2 (by assumption), cell_on hb2 (by assumption), cell_on hb2 (by assumption), cell_on hb2 (by assumption), below_on (by assumption) hb2⟩) | go_keep)
          (first | (go_at_call 38; refine (HPP.out _).mono ?_; rintro e w2 ⟨rfl, hb2⟩))
        go_split_ands
        rename_i hb9
        have HB2 := Lib.hid hb9
        clear hb9
        rename World => Wx
        clear u0 u1 u2 u3 v0 v1 v2 v3
        go_wp2_with fail
        go_roundw
        case rel => exact ⟨hh + 1, j, by go_num, rfl, by omega, by omega, by omega, fun _ => by rw [Nat.add_sub_cancel, EX.out]; exact fun h => absurd (HCL.out.2 h) (by omega), F2.out, HC.out.below HB2.out⟩
        case measure => simp [intOf]; omega
    · obtain rfl : i = j := by omega
      obtain ⟨X1, X2, eX, hX1⟩ := part_two (l := X) (k := i - a) (by have := HM.out; omega)
      have LX := Lib.hid hX1
      have HW := Lib.hid (show Weak (X1 ++ y :: X2) by
        have wx := WX.out
        rw [eX] at wx
        refine ins_weak' wx ?_ ?_
        · intro z hz
          have hpos : 0 < X1.length := by
            rcases Nat.eq_zero_or_pos X1.length with h0 | h0
            · rw [List.length_eq_zero_iff.1 h0] at hz; cases hz
            · exact h0
          obtain ⟨X1', u, rfl⟩ := last_of hpos
          have hg : l.getD (i - 1) c0 = u := by
            rw [EL.out, eX, show P ++ ((X1' ++ [u]) ++ X2 ++ (y :: S)) = (P ++ X1') ++ u :: (X2 ++ (y :: S)) by simp]
            apply getD_at
            have := HA.out; simp at hX1 ⊢; omega
          have := F1.out (by have := LX.out; simp at this; omega)
          rw [hg] at this
          exact ins_last (weak_two.1 wx).1 this z hz
        · intro z hz
          have hpos : 0 < X2.length := by
            rcases Nat.eq_zero_or_pos X2.length with h0 | h0
            · rw [List.length_eq_zero_iff.1 h0] at hz; cases hz
            · exact h0
          obtain ⟨u, X2', rfl⟩ := first_of hpos
          have hg : l.getD i c0 = u := by
            rw [EL.out, eX, show P ++ (X1 ++ u :: X2' ++ (y :: S)) = (P ++ X1) ++ u :: (X2' ++ (y :: S)) by simp]
            apply getD_at
            have := HA.out; simp; omega
          have := F2.out (by have := HM.out; rw [eX] at this; simp at this; omega)
          rw [hg] at this
          exact ins_first (weak_two.1 wx).2.1 (carLt_asym this) z hz)
      have HPM := Lib.hid (show (X1 ++ y :: X2).Perm (X ++ [y]) by
        rw [eX, List.append_assoc]; exact List.Perm.append_left X1 (List.perm_append_comm (l₁ := [y]) (l₂ := X2)))
      have HC2 := Lib.hid (show Cs w wr lo g cap n (P ++ (X1 ++ (X2 ++ y :: S))) by have := HC.out; rw [EL.out, eX, List.append_assoc] at this; exact this)
      have EM := Lib.hid (show m = i + X2.length by have := HM.out; rw [eX, List.length_append] at this; omega)
      have him : i ≤ m := by omega
      clear eX hX1
      obtain ⟨wo, rfl⟩ : ∃ wo : World, wo = wr := ⟨_, rfl⟩
      go_wp2_with fail
      go_loopw [17] (fun vk wr => ∃ (k : Nat) (U V : List Car), vk = .int .i64 k ∧ k = i + U.length ∧ X2 = U ++ V ∧ Cs w wr lo g cap n (P ++ (X1 ++ (U ++ y :: (V ++ S))))) (fun vk _ => (intOf vk).toNat)
      case atStart => exact ⟨m, X2, [], rfl, EM.out, by simp, HC2.out⟩
      case round =>
        obtain ⟨k, U, V, rfl, hk, hv, hc⟩ := hrel
        have HU := Lib.hid hk
        have HV := Lib.hid hv
        have HC3 := Lib.hid hc
        clear hk hv hc
        by_cases hki : i < k
        · have d2 : decide ((i : Int) < (k : Int)) = true := by simp; omega
          obtain ⟨U', x, eU⟩ := last_of (l := U) (by have := HU.out; omega)
          have EU := Lib.hid eU
          have hmem := HC3.out
          have hln := hmem.len
          have hkn : k < n := by have := HU.out; simp at hln; have := HA.out; have := LX.out; omega
          have hpk : (P ++ X1 ++ U').length = k - 1 := by have h1 := HU.out; rw [eU, List.length_append] at h1; simp at h1; rw [List.length_append, List.length_append, HA.out, LX.out]; omega
          rw [eU, show P ++ (X1 ++ ((U' ++ [x]) ++ y :: (V ++ S))) = (P ++ X1 ++ U') ++ x :: y :: (V ++ S) by simp] at hmem
          have gx : ((P ++ X1 ++ U') ++ x :: y :: (V ++ S)).getD (k - 1) c0 = x := getD_at _ _ _ hpk.symm
          have gy : ((P ++ X1 ++ U') ++ x :: y :: (V ++ S)).getD k c0 = y := by
            rw [show (P ++ X1 ++ U') ++ x :: y :: (V ++ S) = (P ++ X1 ++ U' ++ [x]) ++ y :: (V ++ S) by simp]
            exact getD_at _ _ _ (by rw [List.length_append, hpk]; simp; omega)
          have HE := Lib.hid (show exch ((P ++ X1 ++ U') ++ x :: y :: (V ++ S)) k (k - 1) = P ++ (X1 ++ (U' ++ y :: ((x :: V) ++ S))) by
            have := (exch_next (P ++ X1 ++ U') (V ++ S) y x).1
            rw [hpk, show k - 1 + 1 = k by omega] at this
            rw [this]; simp)
          obtain ⟨p, q, f, t⟩ := y
          obtain ⟨p', q', f', t'⟩ := x
          obtain ⟨u0, u1, u2, u3⟩ := hmem.cells (i := k) (by omega) gy
          obtain ⟨v0, v1, v2, v3⟩ := hmem.cells (i := k - 1) (by omega) gx
          have s0 := hmem.free (k * 4)
          have s1 := hmem.free (k * 4 + 1)
          have s2 := hmem.free (k * 4 + 2)
          have s3 := hmem.free (k * 4 + 3)
          have t0 := hmem.free ((k - 1) * 4)
          have t1 := hmem.free ((k - 1) * 4 + 1)
          have t2 := hmem.free ((k - 1) * 4 + 2)
          have t3 := hmem.free ((k - 1) * 4 + 3)
          have mixed : Try.prog.follows Departure.mixedOrders = true := by kernel_rfl
          have HMM := Lib.hid hmem
          have GGX := Lib.hid gx
          have GGY := Lib.hid gy
          have x1 := IntWalk.i64_in ((k : Int) - 1) (by omega)
          have y1 : (0 : Int) ≤ (k : Int) - 1 := by omega
          have y2 : (1 : Int) ≤ (k : Int) := by omega
          have y3 : (0 : Int) < (k : Int) := by omega
          have y4 : (0 : Int) ≤ (k : Int) := by omega
          have z1 : ((k : Int) - 1).toNat = k - 1 := by omega
          have r1 : (k : Int) < (n : Int) := by omega
          have r2 : (k : Int) - 1 < (n : Int) := by omega
          have r3 : (k : Int) ≤ (n : Int) := by omega
          clear eU hmem gx gy hpk hln
          go_wp2_with fail
          go_big_region_o
          all_goals go_wp2
          go_roundw
          case rel =>
            refine ⟨k - 1, U', (p', q', f', t') :: V, by go_num, by have := HU.out; rw [EU.out] at this; simp at this; omega, by rw [HV.out, EU.out]; simp, ?_⟩
            rw [← HE.out]
            refine Cs.drew ?_
            exact HMM.out.exch (by omega) (by omega) GGY.out GGX.out rfl
          case measure => simp [intOf]; omega
        · have d2 : decide ((i : Int) < (k : Int)) = false := by simp; omega
          have hU : U = [] := List.length_eq_zero_iff.1 (by have := HU.out; omega)
          go_wp2_with fail
          refine bodyPost_ret (results_none rfl _ _ _) rfl ?_
          refine ⟨rfl, _, HPM.out, HW.out, ?_⟩
          have := HC3.out
          rw [hU] at this
          rw [HV.out, hU]
          simpa using this
end Go.Proofs.Ytamehlafmfmgmaa
