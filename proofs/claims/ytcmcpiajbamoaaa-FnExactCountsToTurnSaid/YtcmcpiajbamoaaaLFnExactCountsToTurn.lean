/- The program's CountsToTurn returns what the reference's returns, for all arguments. Without conditions. -/
import Derived.Test.YtcmcpiajbamoaaaRows
import Derived.Test.YtcmcpiajbamoaaaFrame
namespace Go.Proofs.Ytcmcpiajbamoaaa.fnExactCountsToTurn
open Go.ChangeShapes Go.WideShapes Go.ChangeAt Go.RowKit
set_option linter.unusedVariables false

theorem own : ownKnob Try.prog.godebug = none := by kernel_rfl

set_option maxHeartbeats 1000000 in
theorem walk (w : World) (f : Int) (_ : (Lit.int .i64 f).wf = true) (g : Int) (_ : (Lit.int .i64 g).wf = true) (d : Int) (_ : (Lit.int .i64 d).wf = true) :
    Calls Try.prog 6 #[.int .i64 f, .int .i64 g, .int .i64 d] w fun e w' => e = .returned (.bool true) ∧ Below w.heap.size w w' := by
  by_cases h0 : 0 ≤ f
  · skip
    by_cases h1 : f ≤ 7
    · skip
      by_cases h2 : 0 ≤ g
      · skip
        by_cases h3 : g ≤ 7
        · skip
          by_cases h4 : 1 ≤ d
          · skip
            by_cases h5 : d ≤ 8
            · skip
              by_cases h6 : (g - f) % 8 ≤ 4
              · skip
                by_cases h7 : (g - f) % 8 = 0
                · skip
                  go_enter Try.func6, Try.ntmps6
                  go_wp2
                  all_goals go_ret
                  all_goals exact ⟨rfl, Below.refl _ _⟩
                · skip
                  go_enter Try.func6, Try.ntmps6
                  go_wp2
                  all_goals go_ret
                  all_goals exact ⟨rfl, Below.refl _ _⟩
              · skip
                go_enter Try.func6, Try.ntmps6
                go_wp2
                all_goals go_ret
                all_goals exact ⟨rfl, Below.refl _ _⟩
            · skip
              go_enter Try.func6, Try.ntmps6
              go_wp2
              all_goals go_ret
              all_goals exact ⟨rfl, Below.refl _ _⟩
          · skip
            go_enter Try.func6, Try.ntmps6
            go_wp2
            all_goals go_ret
            all_goals exact ⟨rfl, Below.refl _ _⟩
        · skip
          go_enter Try.func6, Try.ntmps6
          go_wp2
          all_goals go_ret
          all_goals exact ⟨rfl, Below.refl _ _⟩
      · skip
        go_enter Try.func6, Try.ntmps6
        go_wp2
        all_goals go_ret
        all_goals exact ⟨rfl, Below.refl _ _⟩
    · skip
      go_enter Try.func6, Try.ntmps6
      go_wp2
      all_goals go_ret
      all_goals exact ⟨rfl, Below.refl _ _⟩
  · skip
    go_enter Try.func6, Try.ntmps6
    go_wp2
    all_goals go_ret
    all_goals exact ⟨rfl, Below.refl _ _⟩

set_option maxRecDepth 100000 in
theorem lifted (os : Os) (started : os.Started) (H : Type) (enc : TypeId × Value → H) :
    ReturnsInHanded {} Try.checked os 6 .any (Rows.fnExactCountsToTurnSpec.pre6 enc Try.prog Try.f6 Rows.fnExactCountsToTurnRow.domain false) (Rows.fnExactCountsToTurnSpec.post enc Try.prog Try.f6 false true false false) := by
  refine returnsInHanded_of_change (C := Try.checked) own started (by kernel_rfl) Try.func6
    (ChangeSpec.witness6 (enc := enc) (C := Try.checked) false ⟨#[], #[.int .i64 0, .int .i64 0, .int .i64 0], []⟩ 8 (by kernel_rfl) (by kernel_rfl) (by kernel_rfl) (by kernel_rfl)) ?_
  intro W base args ds gs before hval0 hW hcnd _
  have hval : ∀ (j : Nat) t v, Try.f6.params[j]? = some t → args[j]? = some v → Value.okWide Try.prog W .any base t v := hval0
  have hW' := hW
  obtain ⟨p, q, hA0, hV, rfl, hfz, hnd⟩ := hW
  have hA : DataW.TrodAll enc Try.prog W 0 (fun _ => true) true Try.f6.params.toList args.toList ds p := hA0
  rw [Try.params6] at hA hval
  obtain ⟨v0, vs0, d0, ds0, p0, q0, hargs, rfl, rfl, h0, r0⟩ := trodAll_cons hA
  obtain ⟨v1, vs1, d1, ds1, p1, q1, rfl, rfl, rfl, h1, r1⟩ := trodAll_cons r0
  obtain ⟨v2, vs2, d2, ds2, p2, q2, rfl, rfl, rfl, h2, r2⟩ := trodAll_cons r1
  obtain ⟨rfl, rfl, rfl⟩ := trodAll_nil r2
  obtain rfl : args = #[v0, v1, v2] := by cases args; simp_all
  obtain ⟨rfl, rfl⟩ := trodVars_none hV
  obtain ⟨a0, rfl, rfl, rfl, w0⟩ := open_int Try.underlying3 (hval 0 3 v0 rfl rfl) h0
  obtain ⟨a1, rfl, rfl, rfl, w1⟩ := open_int Try.underlying3 (hval 1 3 v1 rfl rfl) h1
  obtain ⟨a2, rfl, rfl, rfl, w2⟩ := open_int Try.underlying3 (hval 2 3 v2 rfl rfl) h2
  refine (walk W a0 w0 a1 w1 a2 w2).mono fun e W' ⟨he, hb⟩ => ?_
  subst he
  exact ⟨_, rfl, law_post (f := Try.f6) rfl (by rw [Try.params6]; intro t ht; simp only [List.mem_cons, List.mem_nil_iff, or_false] at ht; rcases ht with rfl | rfl | rfl <;> exact ⟨by kernel_rfl, of_decide_eq_true (by kernel_rfl)⟩) rfl hW' rfl rfl rfl hb⟩

theorem over : Rows.fnExactCountsToTurnRow.holds Try.pinned (OpenSpec.ofChange Rows.fnExactCountsToTurnSpec) :=
  OpenClaim.holds_of_wide 6 Try.f6 rfl rfl rfl rfl rfl rfl rfl ⟨rfl, rfl, rfl, rfl, rfl⟩ rfl rfl rfl rfl rfl (by kernel_rfl) Try.func6 (by kernel_rfl)
    (of_decide_eq_true (by kernel_rfl)) (by unfold Func.isWrapper; first | (rw [if_pos (by decide +kernel)]; kernel_rfl) | (rw [if_neg (by decide +kernel)]; exact ⟨rfl, rfl⟩))
    (fun os started H enc _ => lifted os started H enc)

theorem proved : Rows.FnExactCountsToTurnSaid :=
  over
end Go.Proofs.Ytcmcpiajbamoaaa.fnExactCountsToTurn
