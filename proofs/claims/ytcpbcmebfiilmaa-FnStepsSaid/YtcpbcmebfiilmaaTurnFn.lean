/- What a turn needed, a turn made, a mirrored facing and the counts of a turn come to, and how they lie to each other: plain laws. Without conditions. -/
import Derived.Test.YtcpbcmebfiilmaaIn
namespace Go.Proofs.Ytcpbcmebfiilmaa
open Go.RowKit

theorem ret_iv {a b : Int} {c d : Bool} (h : a = b) (k : c = d) : Ending.returned (.tuple #[.int .i64 a, .bool c]) = .returned (.tuple #[.int .i64 b, .bool d]) := by rw [h, k]
def tnB (f g : Int) : Bool := inB f 0 7 && inB g 0 7
def tnR (f g : Int) : Int := if 4 < (g - f + 8) % 8 then (g - f + 8) % 8 - 8 else (g - f + 8) % 8
def tnV (f g : Int) : Int := if tnB f g = true then tnR f g else 0
def tbB (f t : Int) : Bool := inB f 0 7 && inB t (-8) 8
def tbV (f t : Int) : Int := if tbB f t = true then (f + t + 8) % 8 else 0
def mfV (f : Int) : Int := if inB f 0 7 = true then (8 - f) % 8 else 0
def ctB (f g d : Int) : Bool := tnB f g && inB d 1 8
def ctV (f g d : Int) : Int := if ctB f g d = true then ((if tnR f g < 0 then -tnR f g else tnR f g) + d - 1) / d else 0
theorem inB_in {n lo hi : Int} (h : lo ≤ n ∧ n ≤ hi) : inB n lo hi = true := inB_mk h.1 h.2
theorem inB_out {n lo hi : Int} (h : ¬ (lo ≤ n ∧ n ≤ hi)) : inB n lo hi = false := by simp only [inB, decide_eq_false_iff_not]; exact h
theorem tn_no {f g : Int} (h : ¬ (0 ≤ f ∧ f ≤ 7) ∨ ¬ (0 ≤ g ∧ g ≤ 7)) : tnB f g = false ∧ tnV f g = 0 := by
  have e : tnB f g = false := by
    unfold tnB
    rcases h with h | h
    · rw [inB_out h]; rfl
    · rw [inB_out h, Bool.and_false]
  exact ⟨e, by simp [tnV, e]⟩
theorem tn_yes {f g : Int} (h : 0 ≤ f ∧ f ≤ 7) (k : 0 ≤ g ∧ g ≤ 7) : tnB f g = true ∧ tnV f g = tnR f g := by
  have e : tnB f g = true := by unfold tnB; rw [inB_in h, inB_in k]; rfl
  exact ⟨e, by simp [tnV, e]⟩
theorem tnR_lo {f g : Int} (h : (g - f + 8) % 8 ≤ 4) : tnR f g = (g - f + 8) % 8 := by unfold tnR; rw [if_neg (by omega)]
theorem tnR_hi {f g : Int} (h : 4 < (g - f + 8) % 8) : tnR f g = (g - f + 8) % 8 - 8 := by unfold tnR; rw [if_pos h]
theorem tb_no {f t : Int} (h : ¬ (0 ≤ f ∧ f ≤ 7) ∨ ¬ (-8 ≤ t ∧ t ≤ 8)) : tbB f t = false ∧ tbV f t = 0 := by
  have e : tbB f t = false := by
    unfold tbB
    rcases h with h | h
    · rw [inB_out h]; rfl
    · rw [inB_out h, Bool.and_false]
  exact ⟨e, by simp [tbV, e]⟩
theorem tb_yes {f t : Int} (h : 0 ≤ f ∧ f ≤ 7) (k : -8 ≤ t ∧ t ≤ 8) : tbB f t = true ∧ tbV f t = (f + t + 8) % 8 := by
  have e : tbB f t = true := by unfold tbB; rw [inB_in h, inB_in k]; rfl
  exact ⟨e, by simp [tbV, e]⟩
theorem mf_no {f : Int} (h : ¬ (0 ≤ f ∧ f ≤ 7)) : inB f 0 7 = false ∧ mfV f = 0 := ⟨inB_out h, by simp [mfV, inB_out h]⟩
theorem mf_yes {f : Int} (h : 0 ≤ f ∧ f ≤ 7) : inB f 0 7 = true ∧ mfV f = (8 - f) % 8 := ⟨inB_in h, by simp [mfV, inB_in h]⟩
theorem ct_no {f g d : Int} (h : tnB f g = false ∨ ¬ (1 ≤ d ∧ d ≤ 8)) : ctB f g d = false ∧ ctV f g d = 0 := by
  have e : ctB f g d = false := by
    unfold ctB
    rcases h with h | h
    · rw [h]; rfl
    · rw [inB_out h, Bool.and_false]
  exact ⟨e, by simp [ctV, e]⟩
theorem ct_yes {f g d : Int} (h : tnB f g = true) (k : 1 ≤ d ∧ d ≤ 8) : ctB f g d = true ∧ ctV f g d = ((if tnR f g < 0 then -tnR f g else tnR f g) + d - 1) / d := by
  have e : ctB f g d = true := by unfold ctB; rw [h, inB_in k]; rfl
  exact ⟨e, by simp [ctV, e]⟩

/-- Where a turn was found: it leads there, is of at most half a circle, and the mirrored turn is the opposite one. -/
theorem turn_law {f g : Int} (h : tnB f g = true) : (0 ≤ f ∧ f ≤ 7) ∧ (0 ≤ g ∧ g ≤ 7) ∧ (-3 ≤ tnV f g ∧ tnV f g ≤ 4) ∧ tbB f (tnV f g) = true ∧ tbV f (tnV f g) = g ∧ inB (mfV f) 0 7 = true ∧ inB (mfV g) 0 7 = true ∧ mfV (mfV f) = f ∧ tnB (mfV f) (mfV g) = true ∧
    (tnV f g = 4 ∧ tnV (mfV f) (mfV g) = 4 ∨ tnV f g ≠ 4 ∧ tnV (mfV f) (mfV g) = -tnV f g) := by
  have hb : inB f 0 7 = true ∧ inB g 0 7 = true := by simpa [tnB] using h
  have hf := inB_yes hb.1
  have hg := inB_yes hb.2
  have e1 := (tn_yes hf hg).2
  have m1 := (mf_yes hf).2
  have m2 := (mf_yes hg).2
  have r1 : 0 ≤ mfV f ∧ mfV f ≤ 7 := by omega
  have r2 : 0 ≤ mfV g ∧ mfV g ≤ 7 := by omega
  have m3 := (mf_yes r1).2
  have e2 := tn_yes r1 r2
  have b1 : -3 ≤ tnV f g ∧ tnV f g ≤ 4 := by rw [e1]; unfold tnR; split <;> omega
  have t1 := tb_yes hf (show -8 ≤ tnV f g ∧ tnV f g ≤ 8 by omega)
  refine ⟨hf, hg, b1, t1.1, ?_, inB_in r1, inB_in r2, by rw [m3]; omega, e2.1, ?_⟩
  · rw [t1.2, e1]; unfold tnR; split <;> omega
  · rw [e2.2, e1]; unfold tnR; split <;> split <;> omega
end Go.Proofs.Ytcpbcmebfiilmaa
