/- The program's LongestCarry returns what the reference's returns, for all arguments. Without conditions. -/
import Derived.Test.YtmhgcfacliefeaaRows
import Derived.Test.YtmhgcfacliefeaaFrame
import Derived.Test.YtmhgcfacliefeaaFrameCarry
import Derived.Test.YtmhgcfacliefeaaCarryS
import Derived.Test.YtmhgcfacliefeaaLongest
namespace Go.Proofs.Ytmhgcfacliefeaa.fnExactLongestCarry
open Go.ChangeShapes Go.WideShapes Go.ChangeAt Go.RowKit
set_option linter.unusedVariables false

theorem own : ownKnob Try.prog.godebug = none := by kernel_rfl

set_option maxHeartbeats 1000000 in
theorem walk (w : World) (v : Value) (n : Nat) (xs : List Int) (hr : Rd w w.heap.size 4 v n xs) (hm : n ≤ maxLen) (p0 : Int) (wp0 : (Lit.int .i64 p0).wf = true) :
    Calls Try.prog 7 #[v, .int .i64 p0] w fun e w' => e = .returned (.bool true) ∧ Below w.heap.size w w' := by
  obtain ⟨A, c, rfl⟩ := hr.form4
  unfold maxLen at hm
  have Hr := Lib.hid hr
  clear hr
  by_cases hbig : 1048576 < n
  · go_enter Try.func7, Try.ntmps7
    go_wp2_with fail
    refine (szCarryS_no A n c _ _ (by omega) (by omega) (by omega)).mono ?_
    rintro e w' ⟨rfl, rfl⟩
    go_wp2_with fail
    go_ret
    exact ⟨rfl, Below.refl _ _⟩
  · have hn : n ≤ 1099511627776 := by omega
    obtain ⟨r0, e0⟩ : ∃ r, lcF n xs p0 = r := ⟨_, rfl⟩
    obtain ⟨r1, e1⟩ : ∃ r, lcT n xs p0 = r := ⟨_, rfl⟩
    obtain ⟨r2, e2⟩ : ∃ r, lcB n xs p0 = r := ⟨_, rfl⟩
    have hS := fun (u : Value) (B : Nat) (W : World) (h0 : Cap u) (h1 : Rd W B 4 u n xs) (h2 : B ≤ W.heap.size) => specLongestCarry_any u n B xs p0 W h0 h1 h2 hn
    have hI := fun (u : Value) (B : Nat) (W : World) (h0 : Cap u) (h1 : Rd W B 4 u n xs) (h2 : B ≤ W.heap.size) => LongestCarry_any u n B xs p0 W h0 h1 h2 hn
    rw [e0, e1, e2] at hS hI
    have HS := Lib.hid hS
    have HI := Lib.hid hI
    clear hS hI e0 e1 e2
    have hb50 : (r0 != r0) = false := by simp
    have hb51 : (r1 != r1) = false := by simp
    have hb52 : (r2 != r2) = false := by simp
    go_enter Try.func7, Try.ntmps7
    go_wp2_with fail
    refine (szCarryS_yes A n c _ _ (by omega) (by omega)).mono ?_
    rintro e w' ⟨rfl, rfl⟩
    go_wp2_with fail
    refine (toCarryS_any _ n _ xs _ Hr.out (Nat.le_refl _) hn).mono ?_
    rintro e w1 ⟨u1, rfl, o1, b1⟩
    have q1 := Lib.hid (Own.of o1)
    clear o1
    go_wp2_with fail
    refine (HS.out u1 _ w1 q1.out.cap q1.out.rd (Nat.le_refl _)).mono ?_
    rintro e w2 ⟨rfl, b2⟩
    replace b2 := below_on b1 b2
    clear q1
    go_wp2_with fail
    refine (toCarryS_any _ n _ xs _ (Hr.out.below b2) b2.size hn).mono ?_
    rintro e w3 ⟨x0, rfl, o3, b3⟩
    have q3 := Lib.hid (Own.of o3)
    replace b3 := below_on b2 b3
    clear o3
    go_wp2_with fail
    refine (HI.out x0 _ w3 q3.out.cap q3.out.rd (Nat.le_refl _)).mono ?_
    rintro e w4 ⟨rfl, b4⟩
    replace q3 := Lib.hid (q3.out.below b4 (Nat.le_refl _))
    replace b4 := below_on b3 b4
    go_wp2_with fail
    refine (toCarryS_any _ n _ xs _ (Hr.out.below b4) b4.size hn).mono ?_
    rintro e w5 ⟨x5, rfl, o5, b5⟩
    replace q3 := Lib.hid (q3.out.below b5 (Nat.le_refl _))
    have q5 := Lib.hid (Own.of o5)
    replace b5 := below_on b4 b5
    clear o5
    go_wp2_with fail
    refine (eqCarryS_same x0 x5 _ _ xs _ q3.out.rd q5.out.rd (Nat.le_refl _) hn).mono ?_
    rintro e w6 ⟨rfl, b6⟩
    replace b6 := below_on b5 b6
    go_wp2_with fail
    go_ret
    exact ⟨rfl, b6⟩

set_option maxRecDepth 100000 in
theorem lifted (os : Os) (started : os.Started) (H : Type) (enc : TypeId × Value → H) :
    ReturnsInHanded {} Try.checked os 7 .any (Rows.fnExactLongestCarrySpec.pre6 enc Try.prog Try.f7 Rows.fnExactLongestCarryRow.domain false) (Rows.fnExactLongestCarrySpec.post enc Try.prog Try.f7 false true false false) := by
  refine returnsInHanded_of_change (C := Try.checked) own started (by kernel_rfl) Try.func7
    (ChangeSpec.witness6 (enc := enc) (C := Try.checked) false ⟨#[], #[.slice none 0 0, .int .i64 0], []⟩ 8 (by kernel_rfl) (by kernel_rfl) (by kernel_rfl) (by kernel_rfl)) ?_
  intro W base args ds gs before hval0 hW hcnd _
  have hval : ∀ (j : Nat) t v, Try.f7.params[j]? = some t → args[j]? = some v → Value.okWide Try.prog W .any base t v := hval0
  have hW' := hW
  obtain ⟨p, q, hA0, hV, rfl, hfz, hnd⟩ := hW
  have hA : DataW.TrodAll enc Try.prog W 0 (fun _ => true) true Try.f7.params.toList args.toList ds p := hA0
  rw [Try.params7] at hA hval
  obtain ⟨v0, vs0, d0, ds0, p0, q0, hargs, rfl, rfl, h0, r0⟩ := trodAll_cons hA
  obtain ⟨v1, vs1, d1, ds1, p1, q1, rfl, rfl, rfl, h1, r1⟩ := trodAll_cons r0
  obtain ⟨rfl, rfl, rfl⟩ := trodAll_nil r1
  obtain rfl : args = #[v0, v1] := by cases args; simp_all
  obtain ⟨rfl, rfl⟩ := trodVars_none hV
  obtain ⟨n0, xs0, hr0, hm0, hz0⟩ := rd_arg Try.underlying25 (by kernel_rfl) (by omega) (intsOnly_Carry) (hval 0 25 v0 rfl rfl) h0
  obtain ⟨a1, rfl, rfl, rfl, w1⟩ := open_int Try.underlying3 (hval 1 3 v1 rfl rfl) h1
  refine (walk W v0 n0 xs0 hr0 hm0 a1 w1).mono fun e W' ⟨he, hb⟩ => ?_
  subst he
  exact ⟨_, rfl, law_post (f := Try.f7) rfl (by rw [Try.params7]; intro t ht; simp only [List.mem_cons, List.mem_nil_iff, or_false] at ht; rcases ht with rfl | rfl <;> exact ⟨by kernel_rfl, of_decide_eq_true (by kernel_rfl)⟩) rfl hW' rfl rfl rfl hb⟩

theorem over : Rows.fnExactLongestCarryRow.holds Try.pinned (OpenSpec.ofChange Rows.fnExactLongestCarrySpec) :=
  OpenClaim.holds_of_wide 7 Try.f7 rfl rfl rfl rfl rfl rfl rfl ⟨rfl, rfl, rfl, rfl, rfl⟩ rfl rfl rfl rfl rfl (by kernel_rfl) Try.func7 (by kernel_rfl)
    (of_decide_eq_true (by kernel_rfl)) (by unfold Func.isWrapper; first | (rw [if_pos (by decide +kernel)]; kernel_rfl) | (rw [if_neg (by decide +kernel)]; exact ⟨rfl, rfl⟩))
    (fun os started H enc _ => lifted os started H enc)

theorem proved : Rows.FnExactLongestCarrySaid :=
  over
end Go.Proofs.Ytmhgcfacliefeaa.fnExactLongestCarry
