/- The program's FewestCarriers returns what the reference's returns, for all arguments. Without conditions. -/
import Derived.Test.YtmhgcfacliefeaaRows
import Derived.Test.YtmhgcfacliefeaaFrame
namespace Go.Proofs.Ytmhgcfacliefeaa.fnExactFewestCarriers
open Go.ChangeShapes Go.WideShapes Go.ChangeAt Go.RowKit
set_option linter.unusedVariables false

theorem own : ownKnob Try.prog.godebug = none := by kernel_rfl

set_option maxHeartbeats 2000000 in
theorem walk (w : World) (a : Int) (_ : (Lit.int .i64 a).wf = true) (b : Int) (_ : (Lit.int .i64 b).wf = true) (c : Int) (_ : (Lit.int .i64 c).wf = true) (d : Int) (_ : (Lit.int .i64 d).wf = true) :
    Calls Try.prog 3 #[.int .i64 a, .int .i64 b, .int .i64 c, .int .i64 d] w fun e w' => e = .returned (.bool true) ∧ Below w.heap.size w w' := by
  by_cases h0 : 0 ≤ a
  · skip
    by_cases h1 : a ≤ 999
    · skip
      by_cases h2 : a < b
      · skip
        by_cases h3 : b ≤ 1000
        · skip
          by_cases h4 : 1 ≤ c
          · skip
            by_cases h5 : c ≤ 999
            · skip
              by_cases h6 : 1 ≤ d
              · skip
                by_cases h7 : d ≤ 999
                · skip
                  have p1 : 0 ≤ (d + c - 1) / c := Int.ediv_nonneg (by omega) (by omega)
                  have p2 : (d + c - 1) / c ≤ d + c - 1 := Int.ediv_le_self _ (by omega)
                  have p3 : (d + c - 1) / c ≤ 2000 := by omega
                  have q1 : 0 ≤ (b - a + c - 1) / c := Int.ediv_nonneg (by omega) (by omega)
                  have q2 : (b - a + c - 1) / c ≤ b - a + c - 1 := Int.ediv_le_self _ (by omega)
                  have q3 : (b - a + c - 1) / c ≤ 2000 := by omega
                  clear p2 q2
                  rcases Int.lt_trichotomy ((b - a + c - 1) / c) ((d + c - 1) / c + 1) with hlt | heq | hgt
                  · skip
                    go_enter Try.func3, Try.ntmps3
                    go_wp2
                    all_goals go_ret
                    all_goals exact ⟨rfl, Below.refl _ _⟩
                  · skip
                    have h9 : (((d + c - 1) / c + 1) != ((d + c - 1) / c + 1)) = false := by simp
                    go_enter Try.func3, Try.ntmps3
                    go_wp2
                    all_goals go_ret
                    all_goals exact ⟨rfl, Below.refl _ _⟩
                  · skip
                    go_enter Try.func3, Try.ntmps3
                    go_wp2
                    all_goals go_ret
                    all_goals exact ⟨rfl, Below.refl _ _⟩
                · skip
                  go_enter Try.func3, Try.ntmps3
                  go_wp2
                  all_goals go_ret
                  all_goals exact ⟨rfl, Below.refl _ _⟩
              · skip
                go_enter Try.func3, Try.ntmps3
                go_wp2
                all_goals go_ret
                all_goals exact ⟨rfl, Below.refl _ _⟩
            · skip
              go_enter Try.func3, Try.ntmps3
              go_wp2
              all_goals go_ret
              all_goals exact ⟨rfl, Below.refl _ _⟩
          · skip
            go_enter Try.func3, Try.ntmps3
            go_wp2
            all_goals go_ret
            all_goals exact ⟨rfl, Below.refl _ _⟩
        · skip
          go_enter Try.func3, Try.ntmps3
          go_wp2
          all_goals go_ret
          all_goals exact ⟨rfl, Below.refl _ _⟩
      · skip
        go_enter Try.func3, Try.ntmps3
        go_wp2
        all_goals go_ret
        all_goals exact ⟨rfl, Below.refl _ _⟩
    · skip
      go_enter Try.func3, Try.ntmps3
      go_wp2
      all_goals go_ret
      all_goals exact ⟨rfl, Below.refl _ _⟩
  · skip
    go_enter Try.func3, Try.ntmps3
    go_wp2
    all_goals go_ret
    all_goals exact ⟨rfl, Below.refl _ _⟩

set_option maxRecDepth 100000 in
theorem lifted (os : Os) (started : os.Started) (H : Type) (enc : TypeId × Value → H) :
    ReturnsInHanded {} Try.checked os 3 .any (Rows.fnExactFewestCarriersSpec.pre6 enc Try.prog Try.f3 Rows.fnExactFewestCarriersRow.domain false) (Rows.fnExactFewestCarriersSpec.post enc Try.prog Try.f3 false true false false) := by
  refine returnsInHanded_of_change (C := Try.checked) own started (by kernel_rfl) Try.func3
    (ChangeSpec.witness6 (enc := enc) (C := Try.checked) false ⟨#[], #[.int .i64 0, .int .i64 0, .int .i64 0, .int .i64 0], []⟩ 8 (by kernel_rfl) (by kernel_rfl) (by kernel_rfl) (by kernel_rfl)) ?_
  intro W base args ds gs before hval0 hW hcnd _
  have hval : ∀ (j : Nat) t v, Try.f3.params[j]? = some t → args[j]? = some v → Value.okWide Try.prog W .any base t v := hval0
  have hW' := hW
  obtain ⟨p, q, hA0, hV, rfl, hfz, hnd⟩ := hW
  have hA : DataW.TrodAll enc Try.prog W 0 (fun _ => true) true Try.f3.params.toList args.toList ds p := hA0
  rw [Try.params3] at hA hval
  obtain ⟨v0, vs0, d0, ds0, p0, q0, hargs, rfl, rfl, h0, r0⟩ := trodAll_cons hA
  obtain ⟨v1, vs1, d1, ds1, p1, q1, rfl, rfl, rfl, h1, r1⟩ := trodAll_cons r0
  obtain ⟨v2, vs2, d2, ds2, p2, q2, rfl, rfl, rfl, h2, r2⟩ := trodAll_cons r1
  obtain ⟨v3, vs3, d3, ds3, p3, q3, rfl, rfl, rfl, h3, r3⟩ := trodAll_cons r2
  obtain ⟨rfl, rfl, rfl⟩ := trodAll_nil r3
  obtain rfl : args = #[v0, v1, v2, v3] := by cases args; simp_all
  obtain ⟨rfl, rfl⟩ := trodVars_none hV
  obtain ⟨a0, rfl, rfl, rfl, w0⟩ := open_int Try.underlying3 (hval 0 3 v0 rfl rfl) h0
  obtain ⟨a1, rfl, rfl, rfl, w1⟩ := open_int Try.underlying3 (hval 1 3 v1 rfl rfl) h1
  obtain ⟨a2, rfl, rfl, rfl, w2⟩ := open_int Try.underlying3 (hval 2 3 v2 rfl rfl) h2
  obtain ⟨a3, rfl, rfl, rfl, w3⟩ := open_int Try.underlying3 (hval 3 3 v3 rfl rfl) h3
  refine (walk W a0 w0 a1 w1 a2 w2 a3 w3).mono fun e W' ⟨he, hb⟩ => ?_
  subst he
  exact ⟨_, rfl, law_post (f := Try.f3) rfl (by rw [Try.params3]; intro t ht; simp only [List.mem_cons, List.mem_nil_iff, or_false] at ht; rcases ht with rfl | rfl | rfl | rfl <;> exact ⟨by kernel_rfl, of_decide_eq_true (by kernel_rfl)⟩) rfl hW' rfl rfl rfl hb⟩

theorem over : Rows.fnExactFewestCarriersRow.holds Try.pinned (OpenSpec.ofChange Rows.fnExactFewestCarriersSpec) :=
  OpenClaim.holds_of_wide 3 Try.f3 rfl rfl rfl rfl rfl rfl rfl ⟨rfl, rfl, rfl, rfl, rfl⟩ rfl rfl rfl rfl rfl (by kernel_rfl) Try.func3 (by kernel_rfl)
    (of_decide_eq_true (by kernel_rfl)) (by unfold Func.isWrapper; first | (rw [if_pos (by decide +kernel)]; kernel_rfl) | (rw [if_neg (by decide +kernel)]; exact ⟨rfl, rfl⟩))
    (fun os started H enc _ => lifted os started H enc)

theorem proved : Rows.FnExactFewestCarriersSaid :=
  over
end Go.Proofs.Ytmhgcfacliefeaa.fnExactFewestCarriers
