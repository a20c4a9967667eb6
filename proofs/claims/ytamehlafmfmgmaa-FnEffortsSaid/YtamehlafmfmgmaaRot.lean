/- Contract of the rotation of a part of a slice of carries (of the library's stable sort). Conditions: both parts are not empty and lie within the slice. -/
import Derived.Test.YtamehlafmfmgmaaSwapR
namespace Go.Proofs.Ytamehlafmfmgmaa
open Go.RowKit

set_option maxRecDepth 100000 in
set_option maxHeartbeats 2000000 in
theorem rotate_any (cb : Value) (lo g cap n a m b : Nat) (l : List Car) (w : World) (h : Cs w w lo g cap n l) (h1 : a < m) (h2 : m < b) (h3 : b ≤ n) (hn : n ≤ 1000000) :
    Calls Try.prog 58 #[.slice (some ⟨g, 0, none⟩) n cap, .int .i64 a, .int .i64 m, .int .i64 b, cb] w fun e w' => e = .returned (.tuple #[]) ∧ Cs w w' lo g cap n (rotd l a m b) := by
  have H := Lib.hid h
  clear h
  have e1 : (m : Int) - (a : Int) = ((m - a : Nat) : Int) := by omega
  have e2 : (b : Int) - (m : Int) = ((b - m : Nat) : Int) := by omega
  have HR := Lib.hid (show rotd l (m - (m - a)) m (m + (b - m)) = rotd l a m b by rw [show m - (m - a) = a by omega, show m + (b - m) = b by omega])
  go_enter Try.func58, Try.ntmps58
  go_wp2_with fail

  clear e1 e2
  go_loopw [10, 11] (fun vi vj wr => ∃ (i j : Nat) (l' : List Car), vi = .int .i64 i ∧ vj = .int .i64 j ∧ 0 < i ∧ 0 < j ∧ i ≤ m - a ∧ j ≤ b - m ∧ rotd l' (m - i) m (m + j) = rotd l a m b ∧ Cs w wr lo g cap n l') (fun vi vj _ => (intOf vi).toNat + (intOf vj).toNat)
  case atStart => exact ⟨m - a, b - m, l, rfl, rfl, by omega, by omega, Nat.le_refl _, Nat.le_refl _, HR.out, H.out⟩
  case round =>
    obtain ⟨i, j, l', rfl, rfl, hi, hj, him, hjb, hrot, hc⟩ := hrel
    have HC := Lib.hid hc
    have HRO := Lib.hid hrot
    clear hc hrot
    have e0 : (m : Int) - (i : Int) = ((m - i : Nat) : Int) := by omega
    rcases Nat.lt_trichotomy i j with hlt | heq | hgt
    · have d1 : ((i : Int) != (j : Int)) = true := by rw [bne_iff_ne]; omega
      have d2 : decide ((j : Int) < (i : Int)) = false := by simp; omega
      have e3 : (m : Int) + (j : Int) - (i : Int) = ((m + j - i : Nat) : Int) := by omega
      have e4 : (j : Int) - (i : Int) = ((j - i : Nat) : Int) := by omega
      have HT := Lib.hid (HRO.out.symm.trans (rotd_right (l := l') (m := m) (i := i) (j := j) (by omega) (by have := HC.out.len; omega) (by omega)).symm)
      go_wp2_with fail
      refine (swapRange_any cb lo g cap n (m - i) (m + j - i) i l' _ (Cs.start HC.out.len HC.out.ok HC.out.own) (by omega) (by omega) hn).mono ?_
      rintro e w2 ⟨rfl, hc2⟩
      have HC2 := Lib.hid (HC.out.next hc2)
      clear hc2
      go_wp2_with fail
      go_roundw
      case rel => exact ⟨i, j - i, _, rfl, rfl, by omega, by omega, by omega, by omega, HT.out.symm, HC2.out⟩
      case measure => simp [intOf]; omega
    · subst heq
      have d1 : ((i : Int) != (i : Int)) = false := by simp
      have HT := Lib.hid ((rotd_even (l := l') (m := m) (i := i) (by omega) (by have := HC.out.len; omega)).trans HRO.out)
      go_wp2_with fail
      refine (swapRange_any cb lo g cap n (m - i) m i l' _ (Cs.start HC.out.len HC.out.ok HC.out.own) (by omega) (by omega) hn).mono ?_
      rintro e w2 ⟨rfl, hc2⟩
      have HC2 := Lib.hid (HC.out.next hc2)
      clear hc2
      go_wp2_with fail
      go_end0
      exact ⟨rfl, by have := HC2.out; rw [HT.out] at this; exact this⟩
    · have d1 : ((i : Int) != (j : Int)) = true := by rw [bne_iff_ne]; omega
      have d2 : decide ((j : Int) < (i : Int)) = true := by simp; omega
      have e4 : (i : Int) - (j : Int) = ((i - j : Nat) : Int) := by omega
      have HT := Lib.hid (HRO.out.symm.trans (rotd_left (l := l') (m := m) (i := i) (j := j) (by omega) (by have := HC.out.len; omega) (by omega)).symm)
      go_wp2_with fail
      refine (swapRange_any cb lo g cap n (m - i) m j l' _ (Cs.start HC.out.len HC.out.ok HC.out.own) (by omega) (by omega) hn).mono ?_
      rintro e w2 ⟨rfl, hc2⟩
      have HC2 := Lib.hid (HC.out.next hc2)
      clear hc2
      go_wp2_with fail
      go_roundw
      case rel => exact ⟨i - j, j, _, rfl, rfl, by omega, by omega, by omega, by omega, HT.out.symm, HC2.out⟩
      case measure => simp [intOf]; omega
end Go.Proofs.Ytamehlafmfmgmaa
