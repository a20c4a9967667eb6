/- For all drawn facings names are read back, the needed turn leads there with at most half a circle, and mirrored turns are the opposite ones: the walk. Condition: the table of names is laid. -/
import Derived.Test.YtcpbcmebfiilmaaDoorTurnsB
namespace Go.Proofs.YtcpbcmebfiilmaaDoor
open Go.RowKit

theorem name_back {k : Nat} (h : k < 8) : nmV (k : Int) = nameA k ∧ facV (nameA k) = (k : Int) ∧ facB (nameA k) = true := by
  match k, h with
  | 0, _ => exact ⟨by decide +kernel, by decide +kernel, by decide +kernel⟩
  | 1, _ => exact ⟨by decide +kernel, by decide +kernel, by decide +kernel⟩
  | 2, _ => exact ⟨by decide +kernel, by decide +kernel, by decide +kernel⟩
  | 3, _ => exact ⟨by decide +kernel, by decide +kernel, by decide +kernel⟩
  | 4, _ => exact ⟨by decide +kernel, by decide +kernel, by decide +kernel⟩
  | 5, _ => exact ⟨by decide +kernel, by decide +kernel, by decide +kernel⟩
  | 6, _ => exact ⟨by decide +kernel, by decide +kernel, by decide +kernel⟩
  | 7, _ => exact ⟨by decide +kernel, by decide +kernel, by decide +kernel⟩
set_option maxRecDepth 100000 in
set_option maxHeartbeats 4000000 in
theorem turns_walk (w : World) (ht : Tab w) (A0 : Option Addr) (n0 c0 : Nat) (hr0 : RdB w w.heap.size A0 n0) (hm0 : n0 ≤ maxLen) (A1 : Option Addr) (n1 c1 : Nat) (hr1 : RdB w w.heap.size A1 n1) (hm1 : n1 ≤ maxLen) :
    Calls Tryd.prog 3 #[.slice A0 n0 c0, .slice A1 n1 c1] w fun e w' => e = .returned (.bool true) ∧ Below w.heap.size w w' := by
  unfold maxLen at hm0 hm1
  have H0 := Lib.hid hr0
  have H1 := Lib.hid hr1
  have B0 := Lib.hid (Below.refl w.heap.size w)
  have TT := Lib.hid ht
  clear hr0 hr1 ht
  go_enter Tryd.func3, Tryd.ntmps3
  go_wp2_with fail
  refine (big_any A0 n0 c0 A1 n1 c1 _).mono ?_
  rintro e w' ⟨bb, rfl, rfl⟩
  cases bb with
  | true =>
    go_wp2_with fail
    go_ret
    exact ⟨rfl, B0.out⟩
  | false =>
  go_wp2_with fail
  refine (DrawTurnNeeded_any A0 n0 c0 _ H0.out hm0).mono ?_
  rintro e w1 ⟨f, g, rfl, hb⟩
  replace B0 := Lib.hid (below_on B0.out hb)
  replace TT := Lib.hid (TT.out.keep hb)
  clear hb
  obtain ⟨tb, gtb⟩ : ∃ q9, tnB f g = q9 := ⟨_, rfl⟩
  obtain ⟨tv, gtv⟩ : ∃ q9, tnV f g = q9 := ⟨_, rfl⟩
  have P1 := fun W => TurnNeeded_any f g W
  rw [gtb, gtv] at P1
  replace P1 := Lib.hid P1
  have P2 := fun W => specTurnNeeded_any f g W
  rw [gtb, gtv] at P2
  replace P2 := Lib.hid P2
  go_wp2_with fail
  refine (P1.out _).mono ?_
  rintro e w' ⟨rfl, rfl⟩
  go_wp2_with fail
  refine (P2.out _).mono ?_
  rintro e w' ⟨rfl, rfl⟩
  have qtb : (tb != tb) = false := by simp
  have qtv : (tv != tv) = false := by simp
  cases tb with
  | false =>
    replace gtb := Lib.hid gtb
    replace gtv := Lib.hid gtv
    have HD := Lib.hid (turns_b w w1 B0.out TT.out A1 n1 c1 (H1.out.kept B0.out) hm1)
    go_upto_if 92 with (fail)
    go_step
    go_step
    go_step
    go_step
    exact wp_of_fn (by kernel_rfl) HD.out
  | true =>
    obtain ⟨hf, hg, ht1, e1, e2, e3, e4, e5, e6, e7⟩ := turn_law gtb
    rw [gtv] at ht1 e1 e2 e7
    obtain ⟨k, rfl⟩ := Int.eq_ofNat_of_zero_le hf.1
    have k8 : k < 8 := by omega
    have E8 := Lib.hid (name_back k8)
    have e9 : inB (k : Int) 0 7 = true := inB_in hf
    have R1 := fun W => TurnBy_any (k : Int) tv W
    rw [e1, e2] at R1
    have R2 := fun W h => impl_FacingName (k : Int) W h
    rw [e9, E8.out.1] at R2
    have R3 := fun W h => impl_FacingOf (nameA k) W h
    rw [E8.out.2.1, E8.out.2.2] at R3
    obtain ⟨x, ex⟩ : ∃ x, mfV (k : Int) = x := ⟨_, rfl⟩
    obtain ⟨y, ey⟩ : ∃ x, mfV g = x := ⟨_, rfl⟩
    have R4 := fun W => MirrorFacing_any (k : Int) W
    rw [e9, ex] at R4
    have e10 : inB g 0 7 = true := inB_in hg
    have R5 := fun W => MirrorFacing_any g W
    rw [e10, ey] at R5
    rw [ex] at e3 e5
    rw [ex, ey] at e6 e7
    have R6 := fun W => TurnNeeded_any x y W
    rw [e6] at R6
    have R7 := fun W => MirrorFacing_any x W
    rw [e3, e5] at R7
    obtain ⟨m, em⟩ : ∃ m, tnV x y = m := ⟨_, rfl⟩
    rw [em] at e7 R6
    obtain ⟨t1, t2⟩ := ht1
    have G1 := Lib.hid R1
    have G2 := Lib.hid R2
    have G3 := Lib.hid R3
    have G4 := Lib.hid R4
    have G5 := Lib.hid R5
    have G6 := Lib.hid R6
    have G7 := Lib.hid R7
    have i1 : decide (tv < -3) = false := decide_eq_false (by omega)
    have i2 : decide (4 < tv) = false := decide_eq_false (by omega)
    have i3 : (g != g) = false := by simp
    have i4 : ((k : Int) != (k : Int)) = false := by simp
    replace gtb := Lib.hid gtb
    replace gtv := Lib.hid gtv
    have HD := Lib.hid (turns_b w w1 B0.out TT.out A1 n1 c1 (H1.out.kept B0.out) hm1)
    clear R1 R2 R3 R4 R5 R6 R7 e1 e2 e3 e4 e5 e6 e9 e10 ex ey em P1 P2
    rcases e7 with ⟨rfl, rfl⟩ | ⟨h4, rfl⟩
    all_goals
      (first | (have j1 : (tv != 4) = true := by simpa using h4) | skip)
      (first | (have j2 : (tv == 4) = false := by simpa using h4) | skip)
      (first | (have j3 : (-tv != -tv) = false := by simp) | skip)
      go_wp2_with fail
      refine (G1.out _).mono ?_
      rintro e w' ⟨rfl, rfl⟩
      go_wp2_with fail
      refine (G2.out _ TT.out).mono ?_
      rintro e w' ⟨rfl, rfl⟩
      go_wp2_with fail
      refine (G3.out _ TT.out).mono ?_
      rintro e w' ⟨rfl, rfl⟩
      go_wp2_with fail
      refine (G4.out _).mono ?_
      rintro e w' ⟨rfl, rfl⟩
      go_wp2_with fail
      refine (G5.out _).mono ?_
      rintro e w' ⟨rfl, rfl⟩
      go_wp2_with fail
      refine (G6.out _).mono ?_
      rintro e w' ⟨rfl, rfl⟩
      go_wp2_with fail
      refine (G7.out _).mono ?_
      rintro e w' ⟨rfl, rfl⟩
      go_upto_if 196 with (fail)
      go_step
      go_step
      go_step
      go_step
      exact wp_of_fn (by kernel_rfl) HD.out
end Go.Proofs.YtcpbcmebfiilmaaDoor
