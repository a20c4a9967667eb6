/- Contracts of the needed turn and of the step kind, in the program and in the reference. Conditions: facings from 0 to 7, spots on the field. -/
import Derived.Test.YtcpbcmebfiilmaaDirOf
import Derived.Test.YtcpbcmebfiilmaaFacingIn
namespace Go.Proofs.Ytcpbcmebfiilmaa
open Go.RowKit

/-- The needed turn from f to g. -/
def tnL (f g : Int) : Int := if 4 < (g - f) % 8 then (g - f) % 8 - 8 else (g - f) % 8
theorem tnL_in (f g : Int) : -3 ≤ tnL f g ∧ tnL f g ≤ 4 := by unfold tnL; split <;> omega
/-- The step kind of a direction with a facing. -/
def kindL (f d : Int) : Int := if ab (tnL f d) ≤ 1 then 0 else if 3 ≤ ab (tnL f d) then 2 else 1
theorem kindL_cases (f d : Int) : kindL f d = 0 ∨ kindL f d = 1 ∨ kindL f d = 2 := by unfold kindL; split; exact .inl rfl; split; exact .inr (.inr rfl); exact .inr (.inl rfl)
theorem dirL_in (x y : Int) : 0 ≤ dirL x y ∧ dirL x y ≤ 7 := by unfold dirL; (repeat' split) <;> omega

theorem turnNeeded_any (f g : Int) (w : World) (h1 : 0 ≤ f) (h2 : f ≤ 7) (h3 : 0 ≤ g) (h4 : g ≤ 7) : Calls Try.prog 33 #[.int .i64 f, .int .i64 g] w fun e w' => e = .returned (.int .i64 (tnL f g)) ∧ w = w' := by
  go_enter Try.func33, Try.ntmps33
  go_wp2
  all_goals go_ret
  all_goals refine ⟨ret_int ?_, rfl⟩
  all_goals (unfold tnL; split <;> omega)
theorem tuNeeded_any (f g : Int) (w : World) (h1 : 0 ≤ f) (h2 : f ≤ 7) (h3 : 0 ≤ g) (h4 : g ≤ 7) : Calls Try.prog 34 #[.int .i64 f, .int .i64 g] w fun e w' => e = .returned (.int .i64 (tnL f g)) ∧ w = w' := by
  go_enter Try.func34, Try.ntmps34
  go_wp2
  all_goals go_ret
  all_goals refine ⟨ret_int ?_, rfl⟩
  all_goals (unfold tnL; split <;> omega)

theorem tuKind_any (f d : Int) (w : World) (h1 : 0 ≤ f) (h2 : f ≤ 7) (h3 : 0 ≤ d) (h4 : d ≤ 7) : Calls Try.prog 31 #[.int .i64 f, .int .i64 d] w fun e w' => e = .returned (.int .i64 (kindL f d)) ∧ w = w' := by
  obtain ⟨t1, t2⟩ := tnL_in f d
  go_enter Try.func31, Try.ntmps31
  go_wp2_with fail
  refine (tuNeeded_any f d _ h1 h2 h3 h4).mono ?_
  rintro e w' ⟨rfl, rfl⟩
  go_wp2_with fail
  refine (l1Abs_any (tnL f d) _ (by omega) (by omega)).mono ?_
  rintro e w' ⟨rfl, rfl⟩
  go_wp2_with fail
  all_goals go_ret
  all_goals refine ⟨ret_int ?_, rfl⟩
  all_goals (unfold kindL; (repeat' split) <;> omega)

theorem stepKind_any (f x y z u c : Int) (w : World) (h1 : 0 ≤ f) (h2 : f ≤ 7) (hm : mvB x y z u c = true) :
    Calls Try.prog 27 #[.int .i64 f, (Value.agg #[Value.int .i64 x, Value.int .i64 y, Value.int .i64 z, Value.int .i64 u, Value.int .i64 c])] w fun e w' => e = .returned (.int .i64 (kindL f (dirL (z - x) (u - y)))) ∧ Below w.heap.size w w' := by
  have hm' := mvB_yes hm
  obtain ⟨d1, d2⟩ := dirL_in (z - x) (u - y)
  obtain ⟨t1, t2⟩ := tnL_in f (dirL (z - x) (u - y))
  clear hm
  go_enter Try.func27, Try.ntmps27
  go_wp2_with fail
  refine (directionOf_any x y z u c _ (by omega) (by omega) (by omega) (by omega)).mono ?_
  rintro e w1 ⟨rfl, hb1⟩
  replace hb1 := Lib.hid (below_box hb1)
  go_wp2_with fail
  refine (turnNeeded_any f _ _ h1 h2 d1 d2).mono ?_
  rintro e w' ⟨rfl, rfl⟩
  obtain ⟨t, et⟩ : ∃ t, tnL f (dirL (z - x) (u - y)) = t := ⟨_, rfl⟩
  have hk : kindL f (dirL (z - x) (u - y)) = if ab t ≤ 1 then 0 else if 3 ≤ ab t then 2 else 1 := by unfold kindL; rw [et]
  have HA := Lib.hid (ab_cases t)
  have HK := Lib.hid hk
  rw [et] at t1 t2
  rw [et]
  clear et hk hm' d1 d2
  go_wp2_with fail
  all_goals go_ret
  all_goals
    refine ⟨ret_int ?_, hb1.out⟩
    have hA := HA.out
    rw [HK.out]
    rcases hA with ⟨a1, a2⟩ | ⟨a1, a2⟩ <;> rw [a2] <;> (repeat' split) <;> omega
end Go.Proofs.Ytcpbcmebfiilmaa
