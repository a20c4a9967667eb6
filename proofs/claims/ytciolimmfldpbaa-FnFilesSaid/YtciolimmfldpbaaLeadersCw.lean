/- How many counts a drawn way takes, and that the leader then stands at its end: plain laws. Without conditions. -/
import Derived.Test.YtciolimmfldpbaaLeader
import Derived.Test.YtciolimmfldpbaaWayLength
import Derived.Test.YtciolimmfldpbaaLeadersFn
namespace Go.Proofs.Ytciolimmfldpbaa
open Go.RowKit

theorem ceil_law {L s : Int} (hs : 1 ≤ s) : L ≤ (L + s - 1) / s * s ∧ ((L + s - 1) / s - 1) * s < L := by
  have h1 := Int.emod_add_mul_ediv (L + s - 1) s
  have h2 := Int.emod_nonneg (L + s - 1) (b := s) (by omega)
  have h3 := Int.emod_lt_of_pos (L + s - 1) (b := s) (by omega)
  have h4 : s * ((L + s - 1) / s) = (L + s - 1) / s * s := Int.mul_comm _ _
  rw [Int.sub_mul, Int.one_mul]
  omega
/-- The counts of a drawn way. -/
theorem cw_law {n : Nat} {xs : List Int} {s : Int} (h : cwB n xs s = true) (hs : shortBut xs n) :
    wayB n xs = true ∧ (1 ≤ s ∧ s ≤ 24) ∧ (1 ≤ cwV n xs s ∧ cwV n xs s ≤ 10000) ∧ lenTo xs (n - 1) ≤ cwV n xs s * s ∧ (cwV n xs s - 1) * s < lenTo xs (n - 1) := by
  have e := (cw_yes h).2
  simp only [cwB, Bool.and_eq_true] at h
  obtain ⟨hw, h2⟩ := h
  have h2 := inB_yes h2
  have hl := len_drawn hw hs
  obtain ⟨⟨h12, _⟩, _, hok⟩ := wayB_yes hw
  have hp : 0 < lenTo xs (n - 1) := by have := lenTo_lt hok (n - 1) 0 (by omega) (by omega); simpa [lenTo] using this
  obtain ⟨c1, c2⟩ := ceil_law (L := lenTo xs (n - 1)) (s := s) h2.1
  rw [e]
  obtain ⟨q, hq⟩ : ∃ q, (lenTo xs (n - 1) + s - 1) / s = q := ⟨_, rfl⟩
  rw [hq] at c1 c2 ⊢
  have q1 : 1 ≤ q := by
    rcases Int.lt_or_le 0 q with g | g
    · omega
    · have := Int.mul_nonpos_of_nonpos_of_nonneg g (show 0 ≤ s by omega); omega
  have q2 : q - 1 ≤ (q - 1) * s := by
    have := Int.mul_le_mul_of_nonneg_left (show 1 ≤ s by omega) (show 0 ≤ q - 1 by omega); omega
  exact ⟨hw, h2, ⟨q1, by omega⟩, c1, c2⟩
theorem la_end {n : Nat} {xs : List Int} {s c : Int} (h : cwB n xs s = true) (hs : shortBut xs n) (hc : cwV n xs s ≤ c) (hc2 : c ≤ 10000) : laB n xs s c = true ∧ laX n xs s c = X xs (n - 1) ∧ laY n xs s c = Y xs (n - 1) := by
  obtain ⟨hw, hs1, hv, h1, _⟩ := cw_law h hs
  have hb : laB n xs s c = true := by
    simp only [cwB, Bool.and_eq_true] at h
    simp only [laB, Bool.and_eq_true]
    exact ⟨⟨hw, h.2⟩, by simp [inB]; omega⟩
  have hm : cwV n xs s * s ≤ c * s := Int.mul_le_mul_of_nonneg_right hc (by omega)
  have hL : laL n xs s c = lenTo xs (n - 1) := by unfold laL; rw [Int.mul_comm s c]; omega
  obtain ⟨a, b⟩ := al_end hw
  obtain ⟨_, e1, e2⟩ := la_yes hb
  rw [e1, e2, hL]
  exact ⟨hb, a, b⟩
end Go.Proofs.Ytciolimmfldpbaa
