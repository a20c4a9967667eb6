/- Contract of the insertion sort of a part of a slice of carries (of the library's stable sort). Condition: the part lies within the slice. -/
import Derived.Test.YtamehlafmfmgmaaSwapR
import Derived.Test.YtamehlafmfmgmaaCarry
import Derived.Deep.RegionHeld3
import Derived.Deep.QuietTactic
namespace Go.Proofs.Ytamehlafmfmgmaa
open Go.RowKit

/-- The comparison, as a function value. -/
abbrev cmpF : Value := .func (.func 38) #[] #[]
theorem cmp_lt {c d : Car} : (cmpV c.2.1 c.2.2.1 d.2.1 d.2.2.1 < 0) ↔ carLt c d := by
  unfold carLt
  rw [← cmp_bef]
  simp
theorem ins_weak {U V : List Car} {x : Car} (hw : Weak (U ++ V)) (h1 : ∀ a ∈ U, ¬ carLt x a) (h2 : ∀ v ∈ V, carLt x v) : Weak (U ++ x :: V) := by
  have := weak_ins (l := U ++ V) (c := x) (k := U.length) hw (by rw [List.take_left]; exact h1) (by rw [List.drop_left]; exact fun a ha => carLt_asym (h2 a ha))
  rw [List.take_left, List.drop_left] at this
  exact this
theorem ins_last {U : List Car} {x y : Car} (hw : Weak (U ++ [y])) (h : ¬ carLt x y) : ∀ a ∈ U ++ [y], ¬ carLt x a := fun a ha => carLt_trans (before_last hw a ha) h
theorem ins_perm {U V R X : List Car} {x : Car} (h : ((U ++ V) ++ x :: R).Perm X) : ((U ++ x :: V) ++ R).Perm X := by
  refine List.Perm.trans ?_ h
  rw [List.append_assoc, List.append_assoc]
  refine List.Perm.append_left U ?_
  rw [List.cons_append]
  exact List.perm_middle.symm
set_option maxRecDepth 100000 in
set_option maxHeartbeats 4000000 in
theorem insertion_any (lo g cap n a b : Nat) (P X S l : List Car) (w : World) (el : l = P ++ (X ++ S)) (ha : P.length = a) (hb : a + X.length = b) (hx : 0 < X.length) (h : Cs w w lo g cap n l) (hn : n ≤ 1000000) :
    Calls Try.prog 56 #[.slice (some ⟨g, 0, none⟩) n cap, .int .i64 a, .int .i64 b, cmpF] w fun e w' => e = .returned (.tuple #[]) ∧ ∃ Z, Z.Perm X ∧ Weak Z ∧ Cs w w' lo g cap n (P ++ (Z ++ S)) := by
  have H := Lib.hid h
  have hbn : b ≤ n := by have := h.len; rw [el] at this; simp at this; omega
  have EL := Lib.hid el
  have HA := Lib.hid ha
  have HX := Lib.hid hb
  clear h el ha
  go_enter Try.func56, Try.ntmps56
  go_wp2_with fail
  go_loopw [8] (fun vi wr => ∃ (i : Nat) (Z R : List Car), vi = .int .i64 i ∧ a < i ∧ i ≤ b ∧ Z.length = i - a ∧ Weak Z ∧ (Z ++ R).Perm X ∧ Cs w wr lo g cap n (P ++ (Z ++ (R ++ S)))) (fun vi _ => b - (intOf vi).toNat)
  case atStart =>
    obtain ⟨x, R, hX⟩ := first_of hx
    subst hX
    have := H.out
    rw [EL.out] at this
    have hxl := HX.out
    simp at hxl
    exact ⟨a + 1, [x], R, by go_num, by omega, by omega, by simp, weak_one x, List.Perm.refl _, this⟩
  case round =>
    obtain ⟨i, Z, R, rfl, hai, hib, hzl, hwz, hperm, hc⟩ := hrel
    have HZL := Lib.hid hzl
    have HWZ := Lib.hid hwz
    have HP := Lib.hid hperm
    have HC := Lib.hid hc
    clear hzl hwz hperm hc
    by_cases hlt : i < b
    · obtain ⟨x, R', hR⟩ := first_of (l := R) (by have := HP.out.length_eq; have := HZL.out; have := HX.out; simp at *; omega)
      have HR := Lib.hid hR
      clear hR
      obtain ⟨wo, rfl⟩ : ∃ wo : World, wo = wr := ⟨_, rfl⟩
      go_wp2_with fail
      go_loopw [9] (fun vj wq => ∃ (j : Nat) (U V : List Car), vj = .int .i64 j ∧ a ≤ j ∧ U.length = j - a ∧ Z = U ++ V ∧ (∀ v ∈ V, carLt x v) ∧ Cs w wq lo g cap n (P ++ (U ++ x :: (V ++ (R' ++ S))))) (fun vj _ => (intOf vj).toNat)
      case atStart => exact ⟨i, Z, [], rfl, by omega, HZL.out, by simp, by simp, by have := HC.out; rw [HR.out] at this; exact this⟩
      case round =>
        obtain ⟨j, U, V, rfl, haj, hul, hz, hv, hc⟩ := hrel
        have HU := Lib.hid hul
        have HZ := Lib.hid hz
        have HV := Lib.hid hv
        have HC2 := Lib.hid hc
        clear hul hz hv hc
        by_cases hja : a < j
        · have hd : decide ((a : Int) < (j : Int)) = true := by simp; omega
          obtain ⟨U', y, eU⟩ := last_of (l := U) (by have := HU.out; omega)
          have EU := Lib.hid eU
          have hlu : P.length + U'.length = j - 1 := by have := HU.out; have := HA.out; rw [eU] at *; simp at *; omega
          have hmem := HC2.out
          rw [eU, show P ++ ((U' ++ [y]) ++ x :: (V ++ (R' ++ S))) = (P ++ U') ++ y :: x :: (V ++ (R' ++ S)) by simp] at hmem
          have gy : ((P ++ U') ++ y :: x :: (V ++ (R' ++ S))).getD (j - 1) c0 = y := getD_at _ _ _ (by simp; omega)
          have gx : ((P ++ U') ++ y :: x :: (V ++ (R' ++ S))).getD j c0 = x := by
            rw [show (P ++ U') ++ y :: x :: (V ++ (R' ++ S)) = (P ++ U' ++ [y]) ++ x :: (V ++ (R' ++ S)) by simp]
            exact getD_at _ _ _ (by simp; omega)
          have hjn : j < n := by have := hmem.len; simp at this; omega
          have okx : carOk x := hmem.ok x (by simp)
          have oky : carOk y := hmem.ok y (by simp)
          have HE := Lib.hid (show exch ((P ++ U') ++ y :: x :: (V ++ (R' ++ S))) j (j - 1) = P ++ (U' ++ x :: ((y :: V) ++ (R' ++ S))) by
            have := (exch_next (P ++ U') (V ++ (R' ++ S)) x y).1
            rw [show (P ++ U').length = j - 1 by simp; omega, show j - 1 + 1 = j by omega] at this
            rw [this]; simp)
          have HIN := Lib.hid (show ¬ carLt x y → Weak (U ++ x :: V) from fun hh => ins_weak (by rw [← HZ.out]; exact HWZ.out) (by rw [eU]; exact ins_last (weak_two.1 (by have := HWZ.out; rw [HZ.out, eU] at this; exact this)).1 hh) HV.out)
          obtain ⟨p, q, f, t⟩ := x
          obtain ⟨p', q', f', t'⟩ := y
          obtain ⟨u0, u1, u2, u3⟩ := hmem.cells (i := j) (by omega) gx
          obtain ⟨v0, v1, v2, v3⟩ := hmem.cells (i := j - 1) (by omega) gy
          have HM := Lib.hid hmem
          have GX := Lib.hid gx
          have GY := Lib.hid gy
          have x1 := IntWalk.i64_in ((j : Int) - 1) (by omega)
          have y1 : (0 : Int) ≤ (j : Int) - 1 := by omega
          have y2 : (1 : Int) ≤ (j : Int) := by omega
          have y3 : (0 : Int) < (j : Int) := by omega
          have y4 : (0 : Int) ≤ (j : Int) := by omega
          have z1 : ((j : Int) - 1).toNat = j - 1 := by omega
          have r1 : (j : Int) < (n : Int) := by omega
          have r2 : (j : Int) - 1 < (n : Int) := by omega
          have r3 : (j : Int) ≤ (n : Int) := by omega
          have hP := fun W => compareCarries_any p q f t p' q' f' t' W okx oky
          have hcl := cmp_lt (c := (p, q, f, t)) (d := (p', q', f', t'))
          obtain ⟨cv, ecv⟩ : ∃ cv, cmpV q f q' f' = cv := ⟨_, rfl⟩
          simp only at hcl
          rw [ecv] at hP hcl
          have HPP := Lib.hid hP
          have HCL := Lib.hid hcl
          clear eU hlu hmem gx gy okx oky hP hcl ecv
          by_cases hcv : cv < 0
          · have d2 : decide (cv < 0) = true := by simpa using hcv
            go_wp2_with fail
            go_region_held3 (fun W => W.cell? ⟨g, j * 4, none⟩ = some (.int .i64 p) ∧ W.cell? ⟨g, j * 4 + 1, none⟩ = some (.int .i64 q) ∧ W.cell? ⟨g, j * 4 + 2, none⟩ = some (.int .i64 f) ∧ W.cell? ⟨g, j * 4 + 3, none⟩ = some (.int .i64 t) ∧ W.cell? ⟨g, (j - 1) * 4, none⟩ = some (.int .i64 p') ∧ W.cell? ⟨g, (j - 1) * 4 + 1, none⟩ = some (.int .i64 q') ∧ W.cell? ⟨g, (j - 1) * 4 + 2, none⟩ = some (.int .i64 f') ∧ W.cell? ⟨g, (j - 1) * 4 + 3, none⟩ = some (.int .i64 t') ∧ Below wr.heap.size wr W)
              (first | exact ⟨u0, u1, u2, u3, v0, v1, v2, v3, (Below.refl _ _).drew⟩ | (go_split_ands; exact ⟨cell_on hb2 (by assumption), cell_on hb2 (by assumption), cell_on hb2 (by assumption), cell_on hb2 (by assumption), cell_on hb2 (by assumption), cell_on hb2 (by assumption), cell_on hb2 (by assumption), cell_on hb2 (by assumption), below_on (by assumption) hb2⟩) | go_keep)
              (first | (go_at_call 38; refine (HPP.out _).mono ?_; rintro e w2 ⟨rfl, hb2⟩))
            go_split_ands
            rename_i hb9
            have HB2 := Lib.hid hb9
            clear hb9
            rename World => Wx
            have HM2 := Lib.hid (HM.out.below HB2.out)
            clear u0 u1 u2 u3 v0 v1 v2 v3
            obtain ⟨u0, u1, u2, u3⟩ := HM2.out.cells (i := j) (by omega) GX.out
            obtain ⟨v0, v1, v2, v3⟩ := HM2.out.cells (i := j - 1) (by omega) GY.out
            have s0 := HM2.out.free (j * 4)
            have s1 := HM2.out.free (j * 4 + 1)
            have s2 := HM2.out.free (j * 4 + 2)
            have s3 := HM2.out.free (j * 4 + 3)
            have t0 := HM2.out.free ((j - 1) * 4)
            have t1 := HM2.out.free ((j - 1) * 4 + 1)
            have t2 := HM2.out.free ((j - 1) * 4 + 2)
            have t3 := HM2.out.free ((j - 1) * 4 + 3)
            have mixed : Try.prog.follows Departure.mixedOrders = true := by kernel_rfl
            go_wp2_with fail
            go_big_region_o
            all_goals go_wp2
            go_roundw
            case rel =>
              refine ⟨j - 1, U', (p', q', f', t') :: V, by go_num, by omega, ?_, ?_, ?_, ?_⟩
              · have := HU.out; rw [EU.out] at this; simp at this; omega
              · rw [HZ.out, EU.out]; simp
              · intro v hv
                rcases List.mem_cons.1 hv with rfl | hv
                · exact HCL.out.1 hcv
                · exact HV.out v hv
              · rw [← HE.out]
                refine Cs.drew ?_
                exact HM2.out.exch (by omega) (by omega) GX.out GY.out rfl
            case measure => simp [intOf]; omega
          · have d2 : decide (cv < 0) = false := by simpa using hcv
            go_wp2_with fail
            go_region_held3 (fun W => W.cell? ⟨g, j * 4, none⟩ = some (.int .i64 p) ∧ W.cell? ⟨g, j * 4 + 1, none⟩ = some (.int .i64 q) ∧ W.cell? ⟨g, j * 4 + 2, none⟩ = some (.int .i64 f) ∧ W.cell? ⟨g, j * 4 + 3, none⟩ = some (.int .i64 t) ∧ W.cell? ⟨g, (j - 1) * 4, none⟩ = some (.int .i64 p') ∧ W.cell? ⟨g, (j - 1) * 4 + 1, none⟩ = some (.int .i64 q') ∧ W.cell? ⟨g, (j - 1) * 4 + 2, none⟩ = some (.int .i64 f') ∧ W.cell? ⟨g, (j - 1) * 4 + 3, none⟩ = some (.int .i64 t') ∧ Below wr.heap.size wr W)
              (first | exact ⟨u0, u1, u2, u3, v0, v1, v2, v3, (Below.refl _ _).drew⟩ | (go_split_ands; exact ⟨cell_on hb2 (by assumption), cell_on hb2 (by assumption), cell_on hb2 (by assumption), cell_on hb2 (by assumption), cell_on hb2 (by assumption), cell_on hb2 (by assumption), cell_on hb2 (by assumption), cell_on hb2 (by assumption), below_on (by assumption) hb2⟩) | go_keep)
              (first | (go_at_call 38; refine (HPP.out _).mono ?_; rintro e w2 ⟨rfl, hb2⟩))
            go_split_ands
            rename_i hb9
            have HB2 := Lib.hid hb9
            clear hb9
            rename World => Wx
            have HM2 := Lib.hid (HM.out.below HB2.out)
            clear u0 u1 u2 u3 v0 v1 v2 v3
            obtain ⟨u0, u1, u2, u3⟩ := HM2.out.cells (i := j) (by omega) GX.out
            obtain ⟨v0, v1, v2, v3⟩ := HM2.out.cells (i := j - 1) (by omega) GY.out
            have s0 := HM2.out.free (j * 4)
            have s1 := HM2.out.free (j * 4 + 1)
            have s2 := HM2.out.free (j * 4 + 2)
            have s3 := HM2.out.free (j * 4 + 3)
            have t0 := HM2.out.free ((j - 1) * 4)
            have t1 := HM2.out.free ((j - 1) * 4 + 1)
            have t2 := HM2.out.free ((j - 1) * 4 + 2)
            have t3 := HM2.out.free ((j - 1) * 4 + 3)
            have mixed : Try.prog.follows Departure.mixedOrders = true := by kernel_rfl
            have HW := Lib.hid (HIN.out (fun hh => absurd (HCL.out.2 hh) (by omega)))
            have HK := Lib.hid (HC2.out.below HB2.out)
            go_wp2_with fail
            go_roundw
            case rel =>
              refine ⟨i + 1, _, R', by go_num, by omega, by omega, ?_, HW.out, ins_perm (by have := HP.out; rw [HR.out, HZ.out] at this; exact this), ?_⟩
              · have := HZL.out; rw [HZ.out] at this; simp at this ⊢; omega
              · have := HK.out; simpa using this
            case measure => simp [intOf]; omega
        · have hd : decide ((a : Int) < (j : Int)) = false := by simp; omega
          have hU0 : U = [] := List.length_eq_zero_iff.1 (by have := HU.out; omega)
          have HW := Lib.hid (ins_weak (U := U) (V := V) (x := x) (by rw [← HZ.out]; exact HWZ.out) (by rw [hU0]; simp) HV.out)
          clear hU0
          go_wp2_with fail
          go_quiet (fail)
          have HK := Lib.hid (HC2.out.drewN nq)
          go_wp2_with fail
          go_roundw
          case rel =>
            refine ⟨i + 1, _, R', by go_num, by omega, by omega, ?_, HW.out, ins_perm (by have := HP.out; rw [HR.out, HZ.out] at this; exact this), ?_⟩
            · have := HZL.out; rw [HZ.out] at this; simp at this ⊢; omega
            · have := HK.out; simpa using this
          case measure => simp [intOf]; omega
    · obtain rfl : i = b := by omega
      have hR : R = [] := List.length_eq_zero_iff.1 (by have h1 := HP.out.length_eq; have h2 := HZL.out; have h3 := HX.out; rw [List.length_append] at h1; omega)
      subst hR
      go_wp2_with fail
      go_end0
      exact ⟨rfl, Z, by have := HP.out; rw [List.append_nil] at this; exact this, HWZ.out, HC.out⟩
end Go.Proofs.Ytamehlafmfmgmaa
