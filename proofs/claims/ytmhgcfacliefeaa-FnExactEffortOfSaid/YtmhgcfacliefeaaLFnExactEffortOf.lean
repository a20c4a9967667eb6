/- The program's EffortOf returns what the reference's returns, for all arguments. Without conditions. -/
import Derived.Test.YtmhgcfacliefeaaRows
import Derived.Test.YtmhgcfacliefeaaFrame
import Derived.Test.YtmhgcfacliefeaaFrameCarry
import Derived.Test.YtmhgcfacliefeaaCarryS
import Derived.Test.YtmhgcfacliefeaaIntS
import Derived.Test.YtmhgcfacliefeaaEffort
namespace Go.Proofs.Ytmhgcfacliefeaa.fnExactEffortOf
open Go.ChangeShapes Go.WideShapes Go.ChangeAt Go.RowKit
set_option linter.unusedVariables false

theorem own : ownKnob Try.prog.godebug = none := by kernel_rfl

set_option maxHeartbeats 2000000 in
theorem walk (w : World) (v : Value) (n : Nat) (xs : List Int) (hr : Rd w w.heap.size 4 v n xs) (hm : n ≤ maxLen) (u : Value) (m : Nat) (ws : List Int) (hr2 : Rd w w.heap.size 1 u m ws) (hm2 : m ≤ maxLen) (p0 : Int) (wp0 : (Lit.int .i64 p0).wf = true) :
    Calls Try.prog 8 #[v, u, .int .i64 p0] w fun e w' => e = .returned (.bool true) ∧ Below w.heap.size w w' := by
  obtain ⟨A, c, rfl⟩ := hr.form4
  obtain ⟨A2, c2, rfl⟩ := hr2.form4
  unfold maxLen at hm hm2
  have Hr := Lib.hid hr
  have Hr2 := Lib.hid hr2
  clear hr hr2
  by_cases hbig2 : 1048576 < m
  · go_enter Try.func8, Try.ntmps8
    go_wp2_with fail
    go_ret
    exact ⟨rfl, Below.refl _ _⟩
  by_cases hbig : 1048576 < n
  · go_enter Try.func8, Try.ntmps8
    go_wp2_with fail
    refine (szCarryS_no A n c _ _ (by omega) (by omega) (by omega)).mono ?_
    rintro e w' ⟨rfl, rfl⟩
    go_wp2_with fail
    go_ret
    exact ⟨rfl, Below.refl _ _⟩
  · have hn : n ≤ 1099511627776 := by omega
    have hn2 : m ≤ 1099511627776 := by omega
    obtain ⟨r0, e0⟩ : ∃ r, efV n xs m ws p0 = r := ⟨_, rfl⟩
    obtain ⟨r1, e1⟩ : ∃ r, efB n xs m ws p0 = r := ⟨_, rfl⟩
    have hS := fun (u : Value) (u2 : Value) (B : Nat) (W : World) (h0 : Cap u) (h1 : Rd W B 4 u n xs) (h3 : Rd W B 1 u2 m ws) (h2 : B ≤ W.heap.size) => specEffortOf_any u n B xs u2 m ws p0 W h0 h1 h3 h2 hn hn2
    have hI := fun (u : Value) (u2 : Value) (B : Nat) (W : World) (h0 : Cap u) (h1 : Rd W B 4 u n xs) (h3 : Rd W B 1 u2 m ws) (h2 : B ≤ W.heap.size) => EffortOf_any u n B xs u2 m ws p0 W h0 h1 h3 h2 hn hn2
    rw [e0, e1] at hS hI
    have HS := Lib.hid hS
    have HI := Lib.hid hI
    clear hS hI e0 e1
    have hb50 : (r0 != r0) = false := by simp
    have hb51 : (r1 != r1) = false := by simp
    go_enter Try.func8, Try.ntmps8
    go_wp2_with fail
    refine (szCarryS_yes A n c _ _ (by omega) (by omega)).mono ?_
    rintro e w' ⟨rfl, rfl⟩
    go_wp2_with fail
    refine (toCarryS_any _ n _ xs _ Hr.out (Nat.le_refl _) hn).mono ?_
    rintro e w1 ⟨u1, rfl, o1, b1⟩
    have q1 := Lib.hid (Own.of o1)
    clear o1
    go_wp2_with fail
    refine (toIntS_any _ m _ ws _ (Hr2.out.below b1) b1.size hn2).mono ?_
    rintro e w2 ⟨u2, rfl, o2, b2⟩
    have q2 := Lib.hid (Own.of o2)
    replace q1 := Lib.hid (q1.out.below b2 (Nat.le_refl _))
    replace b2 := below_on b1 b2
    clear o2
    go_wp2_with fail
    refine (HS.out u1 u2 _ w2 q1.out.cap q1.out.rd q2.out.rd (Nat.le_refl _)).mono ?_
    rintro e w3 ⟨rfl, b3⟩
    replace b3 := below_on b2 b3
    clear q1 q2
    go_wp2_with fail
    refine (toCarryS_any _ n _ xs _ (Hr.out.below b3) b3.size hn).mono ?_
    rintro e w4 ⟨x0, rfl, o4, b4⟩
    have q4 := Lib.hid (Own.of o4)
    replace b4 := below_on b3 b4
    clear o4
    go_wp2_with fail
    refine (toIntS_any _ m _ ws _ (Hr2.out.below b4) b4.size hn2).mono ?_
    rintro e w5 ⟨x1, rfl, o5, b5⟩
    have q5 := Lib.hid (Own.of o5)
    replace q4 := Lib.hid (q4.out.below b5 (Nat.le_refl _))
    replace b5 := below_on b4 b5
    clear o5
    go_wp2_with fail
    refine (HI.out x0 x1 _ w5 q4.out.cap q4.out.rd q5.out.rd (Nat.le_refl _)).mono ?_
    rintro e w6 ⟨rfl, b6⟩
    replace q4 := Lib.hid (q4.out.below b6 (Nat.le_refl _))
    replace q5 := Lib.hid (q5.out.below b6 (Nat.le_refl _))
    replace b6 := below_on b5 b6
    go_wp2_with fail
    refine (toCarryS_any _ n _ xs _ (Hr.out.below b6) b6.size hn).mono ?_
    rintro e w7 ⟨x7, rfl, o7, b7⟩
    have q7 := Lib.hid (Own.of o7)
    replace q4 := Lib.hid (q4.out.below b7 (Nat.le_refl _))
    replace q5 := Lib.hid (q5.out.below b7 (Nat.le_refl _))
    replace b7 := below_on b6 b7
    clear o7
    go_wp2_with fail
    refine (eqCarryS_same x0 x7 _ _ xs _ q4.out.rd q7.out.rd (Nat.le_refl _) hn).mono ?_
    rintro e w8 ⟨rfl, b8⟩
    replace q5 := Lib.hid (q5.out.below b8 (Nat.le_refl _))
    replace b8 := below_on b7 b8
    clear q4 q7
    go_wp2_with fail
    refine (toIntS_any _ m _ ws _ (Hr2.out.below b8) b8.size hn2).mono ?_
    rintro e w9 ⟨x9, rfl, o9, b9⟩
    have q9 := Lib.hid (Own.of o9)
    replace q5 := Lib.hid (q5.out.below b9 (Nat.le_refl _))
    replace b9 := below_on b8 b9
    clear o9
    go_wp2_with fail
    refine (eqIntS_same x1 x9 _ _ ws _ q5.out.rd q9.out.rd (Nat.le_refl _) hn2).mono ?_
    rintro e w10 ⟨rfl, b10⟩
    replace b10 := below_on b9 b10
    go_wp2_with fail
    go_ret
    exact ⟨rfl, b10⟩

set_option maxRecDepth 100000 in
theorem lifted (os : Os) (started : os.Started) (H : Type) (enc : TypeId × Value → H) :
    ReturnsInHanded {} Try.checked os 8 .any (Rows.fnExactEffortOfSpec.pre6 enc Try.prog Try.f8 Rows.fnExactEffortOfRow.domain false) (Rows.fnExactEffortOfSpec.post enc Try.prog Try.f8 false true false false) := by
  refine returnsInHanded_of_change (C := Try.checked) own started (by kernel_rfl) Try.func8
    (ChangeSpec.witness6 (enc := enc) (C := Try.checked) false ⟨#[], #[.slice none 0 0, .slice none 0 0, .int .i64 0], []⟩ 8 (by kernel_rfl) (by kernel_rfl) (by kernel_rfl) (by kernel_rfl)) ?_
  intro W base args ds gs before hval0 hW hcnd _
  have hval : ∀ (j : Nat) t v, Try.f8.params[j]? = some t → args[j]? = some v → Value.okWide Try.prog W .any base t v := hval0
  have hW' := hW
  obtain ⟨p, q, hA0, hV, rfl, hfz, hnd⟩ := hW
  have hA : DataW.TrodAll enc Try.prog W 0 (fun _ => true) true Try.f8.params.toList args.toList ds p := hA0
  rw [Try.params8] at hA hval
  obtain ⟨v0, vs0, d0, ds0, p0, q0, hargs, rfl, rfl, h0, r0⟩ := trodAll_cons hA
  obtain ⟨v1, vs1, d1, ds1, p1, q1, rfl, rfl, rfl, h1, r1⟩ := trodAll_cons r0
  obtain ⟨v2, vs2, d2, ds2, p2, q2, rfl, rfl, rfl, h2, r2⟩ := trodAll_cons r1
  obtain ⟨rfl, rfl, rfl⟩ := trodAll_nil r2
  obtain rfl : args = #[v0, v1, v2] := by cases args; simp_all
  obtain ⟨rfl, rfl⟩ := trodVars_none hV
  obtain ⟨n0, xs0, hr0, hm0, hz0⟩ := rd_arg Try.underlying25 (by kernel_rfl) (by omega) (intsOnly_Carry) (hval 0 25 v0 rfl rfl) h0
  obtain ⟨n1, xs1, hr1, hm1, hz1⟩ := rd_arg Try.underlying37 (by kernel_rfl) (by omega) (intsOnly_int) (hval 1 37 v1 rfl rfl) h1
  obtain ⟨a2, rfl, rfl, rfl, w2⟩ := open_int Try.underlying3 (hval 2 3 v2 rfl rfl) h2
  refine (walk W v0 n0 xs0 hr0 hm0 v1 n1 xs1 hr1 hm1 a2 w2).mono fun e W' ⟨he, hb⟩ => ?_
  subst he
  exact ⟨_, rfl, law_post (f := Try.f8) rfl (by rw [Try.params8]; intro t ht; simp only [List.mem_cons, List.mem_nil_iff, or_false] at ht; rcases ht with rfl | rfl | rfl <;> exact ⟨by kernel_rfl, of_decide_eq_true (by kernel_rfl)⟩) rfl hW' rfl rfl rfl hb⟩

theorem over : Rows.fnExactEffortOfRow.holds Try.pinned (OpenSpec.ofChange Rows.fnExactEffortOfSpec) :=
  OpenClaim.holds_of_wide 8 Try.f8 rfl rfl rfl rfl rfl rfl rfl ⟨rfl, rfl, rfl, rfl, rfl⟩ rfl rfl rfl rfl rfl (by kernel_rfl) Try.func8 (by kernel_rfl)
    (of_decide_eq_true (by kernel_rfl)) (by unfold Func.isWrapper; first | (rw [if_pos (by decide +kernel)]; kernel_rfl) | (rw [if_neg (by decide +kernel)]; exact ⟨rfl, rfl⟩))
    (fun os started H enc _ => lifted os started H enc)

theorem proved : Rows.FnExactEffortOfSaid :=
  over
end Go.Proofs.Ytmhgcfacliefeaa.fnExactEffortOf
