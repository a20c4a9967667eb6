/- The program's BestFacing returns what the reference's returns, for all arguments. Without conditions. -/
import Derived.Test.YtcmcpiajbamoaaaRows
import Derived.Test.YtcmcpiajbamoaaaFrame
import Derived.Test.YtcmcpiajbamoaaaFrameMove
import Derived.Test.YtcmcpiajbamoaaaBestImpl
import Derived.Test.YtcmcpiajbamoaaaBestSpec
namespace Go.Proofs.Ytcmcpiajbamoaaa.fnExactBestFacing
open Go.ChangeShapes Go.WideShapes Go.ChangeAt Go.RowKit
set_option linter.unusedVariables false

theorem own : ownKnob Try.prog.godebug = none := by kernel_rfl

set_option maxHeartbeats 1000000 in
theorem walk (w : World) (x y z u c : Int) (p0 : Int) (_ : (Lit.int .i64 p0).wf = true) :
    Calls Try.prog 10 #[(Value.agg #[Value.int .i64 x, Value.int .i64 y, Value.int .i64 z, Value.int .i64 u, Value.int .i64 c]), .int .i64 p0] w fun e w' => e = .returned (.bool true) ∧ Below w.heap.size w w' := by
  obtain ⟨r0, e0⟩ : ∃ r, bfV x y z u c p0 = r := ⟨_, rfl⟩
  obtain ⟨r1, e1⟩ : ∃ r, bfB x y z u c p0 = r := ⟨_, rfl⟩
  have hI := fun W => BestFacing_any x y z u c p0 W
  have hS := fun W => specBestFacing_any x y z u c p0 W
  rw [e0, e1] at hI hS
  have HI := Lib.hid hI
  have HS := Lib.hid hS
  clear hI hS e0 e1
  have hb50 : (r0 != r0) = false := by simp
  have hb51 : (r1 != r1) = false := by simp
  go_enter Try.func10, Try.ntmps10
  go_wp2_with fail
  refine (toMove_any _ _ _ _ _ _).mono ?_
  rintro e w1 ⟨rfl, hb1⟩
  have k1 := (Blk.new w 39 #[.int .i64 x, .int .i64 y, .int .i64 z, .int .i64 u, .int .i64 c]).on hb1
  replace hb1 := Lib.hid (below_box hb1)
  go_wp2_with fail
  refine (HS.out _).mono ?_
  rintro e w2 ⟨rfl, hb2⟩
  replace k1 := k1.on hb2
  obtain ⟨c0, c1, c2, c3, c4⟩ := k1.c5
  replace hb2 := Lib.hid (below_on hb1.out hb2)
  go_wp2_with fail
  refine (toMove_any _ _ _ _ _ _).mono ?_
  rintro e w3 ⟨rfl, hb3⟩
  replace hb3 := Lib.hid (below_on hb2.out hb3)
  go_wp2_with fail
  refine (HI.out _).mono ?_
  rintro e w4 ⟨rfl, hb4⟩
  replace hb4 := Lib.hid (below_on hb3.out hb4)
  go_wp2_with fail
  go_ret
  exact ⟨rfl, hb4.out⟩

set_option maxRecDepth 100000 in
theorem lifted (os : Os) (started : os.Started) (H : Type) (enc : TypeId × Value → H) :
    ReturnsInHanded {} Try.checked os 10 .any (Rows.fnExactBestFacingSpec.pre6 enc Try.prog Try.f10 Rows.fnExactBestFacingRow.domain false) (Rows.fnExactBestFacingSpec.post enc Try.prog Try.f10 false true false false) := by
  refine returnsInHanded_of_change (C := Try.checked) own started (by kernel_rfl) Try.func10
    (ChangeSpec.witness6 (enc := enc) (C := Try.checked) false ⟨#[], #[.agg #[.int .i64 0, .int .i64 0, .int .i64 0, .int .i64 0, .int .i64 0], .int .i64 0], []⟩ 8 (by kernel_rfl) (by kernel_rfl) (by kernel_rfl) (by kernel_rfl)) ?_
  intro W base args ds gs before hval0 hW hcnd _
  have hval : ∀ (j : Nat) t v, Try.f10.params[j]? = some t → args[j]? = some v → Value.okWide Try.prog W .any base t v := hval0
  have hW' := hW
  obtain ⟨p, q, hA0, hV, rfl, hfz, hnd⟩ := hW
  have hA : DataW.TrodAll enc Try.prog W 0 (fun _ => true) true Try.f10.params.toList args.toList ds p := hA0
  rw [Try.params10] at hA hval
  obtain ⟨v0, vs0, d0, ds0, p0, q0, hargs, rfl, rfl, h0, r0⟩ := trodAll_cons hA
  obtain ⟨v1, vs1, d1, ds1, p1, q1, rfl, rfl, rfl, h1, r1⟩ := trodAll_cons r0
  obtain ⟨rfl, rfl, rfl⟩ := trodAll_nil r1
  obtain rfl : args = #[v0, v1] := by cases args; simp_all
  obtain ⟨rfl, rfl⟩ := trodVars_none hV
  obtain ⟨x0, y0, z0, u0, c0, rfl⟩ := move_arg (hval 0 39 v0 rfl rfl) h0
  obtain ⟨a1, rfl, rfl, rfl, w1⟩ := open_int Try.underlying3 (hval 1 3 v1 rfl rfl) h1
  refine (walk W x0 y0 z0 u0 c0 a1 w1).mono fun e W' ⟨he, hb⟩ => ?_
  subst he
  exact ⟨_, rfl, law_post (f := Try.f10) rfl (by rw [Try.params10]; intro t ht; simp only [List.mem_cons, List.mem_nil_iff, or_false] at ht; rcases ht with rfl | rfl <;> exact ⟨by kernel_rfl, of_decide_eq_true (by kernel_rfl)⟩) rfl hW' rfl rfl rfl hb⟩

theorem over : Rows.fnExactBestFacingRow.holds Try.pinned (OpenSpec.ofChange Rows.fnExactBestFacingSpec) :=
  OpenClaim.holds_of_wide 10 Try.f10 rfl rfl rfl rfl rfl rfl rfl ⟨rfl, rfl, rfl, rfl, rfl⟩ rfl rfl rfl rfl rfl (by kernel_rfl) Try.func10 (by kernel_rfl)
    (of_decide_eq_true (by kernel_rfl)) (by unfold Func.isWrapper; first | (rw [if_pos (by decide +kernel)]; kernel_rfl) | (rw [if_neg (by decide +kernel)]; exact ⟨rfl, rfl⟩))
    (fun os started H enc _ => lifted os started H enc)

theorem proved : Rows.FnExactBestFacingSaid :=
  over
end Go.Proofs.Ytcmcpiajbamoaaa.fnExactBestFacing
