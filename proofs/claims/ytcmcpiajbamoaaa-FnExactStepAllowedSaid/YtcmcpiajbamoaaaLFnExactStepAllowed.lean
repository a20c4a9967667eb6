/- The program's StepAllowed returns what the reference's returns, for all arguments. Without conditions. -/
import Derived.Test.YtcmcpiajbamoaaaRows
import Derived.Test.YtcmcpiajbamoaaaFrame
import Derived.Test.YtcmcpiajbamoaaaFrameMove
import Derived.Test.YtcmcpiajbamoaaaStepAllowed
import Derived.Test.YtcmcpiajbamoaaaStepAllowedSpec
namespace Go.Proofs.Ytcmcpiajbamoaaa.fnExactStepAllowed
open Go.ChangeShapes Go.WideShapes Go.ChangeAt Go.RowKit
set_option linter.unusedVariables false

theorem own : ownKnob Try.prog.godebug = none := by kernel_rfl

set_option maxHeartbeats 1000000 in
theorem walk (w : World) (p0 : Int) (_ : (Lit.int .i64 p0).wf = true) (x y z u c : Int) (p1 : Int) (_ : (Lit.int .i64 p1).wf = true) (p2 : Int) (_ : (Lit.int .i64 p2).wf = true) (p3 : Int) (_ : (Lit.int .i64 p3).wf = true) :
    Calls Try.prog 11 #[.int .i64 p0, (Value.agg #[Value.int .i64 x, Value.int .i64 y, Value.int .i64 z, Value.int .i64 u, Value.int .i64 c]), .int .i64 p1, .int .i64 p2, .int .i64 p3] w fun e w' => e = .returned (.bool true) ∧ Below w.heap.size w w' := by
  obtain ⟨r0, e0⟩ : ∃ r, saV p0 x y z u c p1 p2 p3 = r := ⟨_, rfl⟩
  obtain ⟨r1, e1⟩ : ∃ r, saB p0 x y z u c p1 p2 p3 = r := ⟨_, rfl⟩
  have hI := fun W => StepAllowed_any p0 x y z u c p1 p2 p3 W
  have hS := fun W => specStepAllowed_any p0 x y z u c p1 p2 p3 W
  rw [e0, e1] at hI hS
  have HI := Lib.hid hI
  have HS := Lib.hid hS
  clear hI hS e0 e1
  have hb50 : (r0 != r0) = false := by simp
  have hb51 : (r1 != r1) = false := by simp
  go_enter Try.func11, Try.ntmps11
  go_wp2_with fail
  refine (toMove_any _ _ _ _ _ _).mono ?_
  rintro e w1 ⟨rfl, hb1⟩
  have k1 := (Blk.new w 39 #[.int .i64 x, .int .i64 y, .int .i64 z, .int .i64 u, .int .i64 c]).on hb1
  replace hb1 := Lib.hid (below_box hb1)
  go_wp2_with fail
  refine (HS.out _).mono ?_
  rintro e w2 ⟨rfl, hb2⟩
  replace k1 := k1.on hb2
  obtain ⟨c0, c1, c2, c3, c4⟩ := k1.c5
  replace hb2 := Lib.hid (below_on hb1.out hb2)
  go_wp2_with fail
  refine (toMove_any _ _ _ _ _ _).mono ?_
  rintro e w3 ⟨rfl, hb3⟩
  replace hb3 := Lib.hid (below_on hb2.out hb3)
  go_wp2_with fail
  refine (HI.out _).mono ?_
  rintro e w4 ⟨rfl, hb4⟩
  replace hb4 := Lib.hid (below_on hb3.out hb4)
  go_wp2_with fail
  go_ret
  exact ⟨rfl, hb4.out⟩

set_option maxRecDepth 100000 in
theorem lifted (os : Os) (started : os.Started) (H : Type) (enc : TypeId × Value → H) :
    ReturnsInHanded {} Try.checked os 11 .any (Rows.fnExactStepAllowedSpec.pre6 enc Try.prog Try.f11 Rows.fnExactStepAllowedRow.domain false) (Rows.fnExactStepAllowedSpec.post enc Try.prog Try.f11 false true false false) := by
  refine returnsInHanded_of_change (C := Try.checked) own started (by kernel_rfl) Try.func11
    (ChangeSpec.witness6 (enc := enc) (C := Try.checked) false ⟨#[], #[.int .i64 0, .agg #[.int .i64 0, .int .i64 0, .int .i64 0, .int .i64 0, .int .i64 0], .int .i64 0, .int .i64 0, .int .i64 0], []⟩ 8 (by kernel_rfl) (by kernel_rfl) (by kernel_rfl) (by kernel_rfl)) ?_
  intro W base args ds gs before hval0 hW hcnd _
  have hval : ∀ (j : Nat) t v, Try.f11.params[j]? = some t → args[j]? = some v → Value.okWide Try.prog W .any base t v := hval0
  have hW' := hW
  obtain ⟨p, q, hA0, hV, rfl, hfz, hnd⟩ := hW
  have hA : DataW.TrodAll enc Try.prog W 0 (fun _ => true) true Try.f11.params.toList args.toList ds p := hA0
  rw [Try.params11] at hA hval
  obtain ⟨v0, vs0, d0, ds0, p0, q0, hargs, rfl, rfl, h0, r0⟩ := trodAll_cons hA
  obtain ⟨v1, vs1, d1, ds1, p1, q1, rfl, rfl, rfl, h1, r1⟩ := trodAll_cons r0
  obtain ⟨v2, vs2, d2, ds2, p2, q2, rfl, rfl, rfl, h2, r2⟩ := trodAll_cons r1
  obtain ⟨v3, vs3, d3, ds3, p3, q3, rfl, rfl, rfl, h3, r3⟩ := trodAll_cons r2
  obtain ⟨v4, vs4, d4, ds4, p4, q4, rfl, rfl, rfl, h4, r4⟩ := trodAll_cons r3
  obtain ⟨rfl, rfl, rfl⟩ := trodAll_nil r4
  obtain rfl : args = #[v0, v1, v2, v3, v4] := by cases args; simp_all
  obtain ⟨rfl, rfl⟩ := trodVars_none hV
  obtain ⟨a0, rfl, rfl, rfl, w0⟩ := open_int Try.underlying3 (hval 0 3 v0 rfl rfl) h0
  obtain ⟨x1, y1, z1, u1, c1, rfl⟩ := move_arg (hval 1 39 v1 rfl rfl) h1
  obtain ⟨a2, rfl, rfl, rfl, w2⟩ := open_int Try.underlying3 (hval 2 3 v2 rfl rfl) h2
  obtain ⟨a3, rfl, rfl, rfl, w3⟩ := open_int Try.underlying3 (hval 3 3 v3 rfl rfl) h3
  obtain ⟨a4, rfl, rfl, rfl, w4⟩ := open_int Try.underlying3 (hval 4 3 v4 rfl rfl) h4
  refine (walk W a0 w0 x1 y1 z1 u1 c1 a2 w2 a3 w3 a4 w4).mono fun e W' ⟨he, hb⟩ => ?_
  subst he
  exact ⟨_, rfl, law_post (f := Try.f11) rfl (by rw [Try.params11]; intro t ht; simp only [List.mem_cons, List.mem_nil_iff, or_false] at ht; rcases ht with rfl | rfl | rfl | rfl | rfl <;> exact ⟨by kernel_rfl, of_decide_eq_true (by kernel_rfl)⟩) rfl hW' rfl rfl rfl hb⟩

theorem over : Rows.fnExactStepAllowedRow.holds Try.pinned (OpenSpec.ofChange Rows.fnExactStepAllowedSpec) :=
  OpenClaim.holds_of_wide 11 Try.f11 rfl rfl rfl rfl rfl rfl rfl ⟨rfl, rfl, rfl, rfl, rfl⟩ rfl rfl rfl rfl rfl (by kernel_rfl) Try.func11 (by kernel_rfl)
    (of_decide_eq_true (by kernel_rfl)) (by unfold Func.isWrapper; first | (rw [if_pos (by decide +kernel)]; kernel_rfl) | (rw [if_neg (by decide +kernel)]; exact ⟨rfl, rfl⟩))
    (fun os started H enc _ => lifted os started H enc)

theorem proved : Rows.FnExactStepAllowedSaid :=
  over
end Go.Proofs.Ytcmcpiajbamoaaa.fnExactStepAllowed
