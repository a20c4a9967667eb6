/- Directions of a move and of the way back, the best facing, and the turns to it: plain laws. Without conditions. -/
import Derived.Test.YtcpbcmebfiilmaaTurnFn
import Derived.Test.YtcpbcmebfiilmaaDirOf
import Derived.Test.YtcpbcmebfiilmaaStepKind
import Derived.Test.YtcpbcmebfiilmaaBest
namespace Go.Proofs.Ytcpbcmebfiilmaa
open Go.RowKit

theorem dir_back (x y : Int) (h : ¬ (x = 0 ∧ y = 0)) : dirL (-x) (-y) = (dirL x y + 4) % 8 := by
  unfold dirL
  have a := ab_cases x
  have b := ab_cases y
  have c := ab_cases (-x)
  have d := ab_cases (-y)
  have e : ab (-x) = ab x := by omega
  have f : ab (-y) = ab y := by omega
  rw [e, f]
  (repeat' split) <;> omega
theorem kind_same (d : Int) : kindL d d = 0 := by
  have : tnL d d = 0 := by unfold tnL; rw [Int.sub_self]; rfl
  unfold kindL; rw [this]; rfl
theorem kind_back {d : Int} (h0 : 0 ≤ d) (h7 : d ≤ 7) : kindL ((d + 4) % 8) d = 2 := by
  have : tnL ((d + 4) % 8) d = 4 := by unfold tnL; split <;> omega
  unfold kindL; rw [this]; rfl
/-- A move with a direction: what the law asks of it. -/
theorem back_law {x y z u c : Int} (h : dirB x y z u c = true) : mvB x y z u c = true ∧ dirB z u x y c = true ∧ dirV z u x y c = (dirV x y z u c + 4) % 8 ∧ skB (dirV x y z u c) x y z u c = true ∧ skV (dirV x y z u c) x y z u c = 0 ∧
    skB ((dirV x y z u c + 4) % 8) x y z u c = true ∧ skV ((dirV x y z u c + 4) % 8) x y z u c = 2 ∧ 0 ≤ dirV x y z u c ∧ dirV x y z u c ≤ 7 := by
  have hm := dirB_mv h
  have hne : ¬ (x = z ∧ y = u) := by
    intro ⟨e1, e2⟩
    subst e1 e2
    rw [(dirB_same x y c).1] at h; cases h
  have hd := dirB_yes hm (show x ≠ z ∨ y ≠ u by omega)
  have hm2 : mvB z u x y c = true := by
    simp only [mvB, Bool.and_eq_true] at hm ⊢
    exact ⟨⟨hm.1.2, hm.1.1⟩, hm.2⟩
  have hr := dirB_yes hm2 (show z ≠ x ∨ u ≠ y by omega)
  have hin := dirL_in (z - x) (u - y)
  have hback : dirL (x - z) (y - u) = (dirL (z - x) (u - y) + 4) % 8 := by
    have := dir_back (z - x) (u - y) (by omega)
    rwa [show -(z - x) = x - z by omega, show -(u - y) = y - u by omega] at this
  have k1 := sk_yes (f := dirV x y z u c) (inB_mk (show 0 ≤ dirV x y z u c by omega) (by omega)) h
  have k2 := sk_yes (f := (dirV x y z u c + 4) % 8) (inB_mk (show 0 ≤ (dirV x y z u c + 4) % 8 by omega) (by omega)) h
  refine ⟨hm, hr.1, by rw [hr.2, hd.2, hback], k1.1, ?_, k2.1, ?_, by omega, by omega⟩
  · rw [k1.2, hd.2]; exact kind_same _
  · rw [k2.2, hd.2]; exact kind_back hin.1 hin.2

/-- The first facing that goes forward turns least, by at most three eighths: over all facings and directions. -/
def bestOk (f d : Nat) : Bool := match bestK (f : Int) (d : Int) with
  | none => false
  | some k => (kindL (((f : Int) + offs k) % 8) d == 0) && decide (tnV f (((f : Int) + offs k) % 8) ≤ 3) && (List.range 8).all fun g => !(kindL (g : Int) d == 0 && decide (tnV f g * tnV f g < tnV f (((f : Int) + offs k) % 8) * tnV f (((f : Int) + offs k) % 8)))
theorem best_all : (List.range 8).all (fun f => (List.range 8).all fun d => bestOk f d) = true := by decide +kernel
theorem best_law {x y z u c f : Int} (h : bfB x y z u c f = true) (hne : ¬ (x = z ∧ y = u)) : dirB x y z u c = true ∧ inB f 0 7 = true ∧ skB (bfV x y z u c f) x y z u c = true ∧ skV (bfV x y z u c f) x y z u c = 0 ∧ tnB f (bfV x y z u c f) = true ∧ tnV f (bfV x y z u c f) ≤ 3 ∧
    ∀ g : Nat, g < 8 → skB (g : Int) x y z u c = true ∧ tnB f (g : Int) = true ∧ (skV (g : Int) x y z u c = 0 → tnV f (bfV x y z u c f) * tnV f (bfV x y z u c f) ≤ tnV f g * tnV f g) := by
  have h2 : mvB x y z u c = true ∧ inB f 0 7 = true := by
    simp only [bfB, Bool.and_eq_true] at h; exact h.1
  obtain ⟨hm, hf⟩ := h2
  have hd := dirB_yes hm (show x ≠ z ∨ y ≠ u by omega)
  have hin := dirL_in (z - x) (u - y)
  obtain ⟨d, hd'⟩ := Int.eq_ofNat_of_zero_le hin.1
  have hf2 := inB_yes hf
  obtain ⟨k, rfl⟩ := Int.eq_ofNat_of_zero_le hf2.1
  have hall := best_all
  simp only [List.all_eq_true, List.mem_range] at hall
  have hb := hall k (by omega) d (by omega)
  unfold bestOk at hb
  cases hk : bestK (k : Int) (d : Int) with
  | none => rw [hk] at hb; cases hb
  | some j =>
    rw [hk] at hb
    simp only [Bool.and_eq_true, beq_iff_eq, decide_eq_true_eq, List.all_eq_true, List.mem_range, Bool.not_eq_true', Bool.and_eq_false_iff, beq_eq_false_iff_ne, decide_eq_false_iff_not] at hb
    obtain ⟨⟨b1, b2⟩, b3⟩ := hb
    have hbf := bf_some hm hf hne (show bestK (k : Int) (dirL (z - x) (u - y)) = some j by rw [hd']; exact hk)
    have r : 0 ≤ ((k : Int) + offs j) % 8 ∧ ((k : Int) + offs j) % 8 ≤ 7 := by omega
    rw [hbf.2]
    have s1 := sk_yes (f := ((k : Int) + offs j) % 8) (inB_mk r.1 r.2) hd.1
    refine ⟨hd.1, hf, s1.1, by rw [s1.2, hd']; exact b1, (tn_yes hf2 r).1, b2, fun g hg => ?_⟩
    have s2 := sk_yes (f := (g : Int)) (inB_mk (by omega) (by omega)) hd.1
    refine ⟨s2.1, (tn_yes hf2 (by omega)).1, fun h0 => ?_⟩
    rw [s2.2, hd'] at h0
    rcases b3 g hg with e | e
    · exact absurd h0 e
    · omega
end Go.Proofs.Ytcpbcmebfiilmaa
