/- The program's SplitCarry returns what the reference's returns, for all arguments, and in memory of its own. Without conditions. -/
import Derived.Test.YtamehlafmfmgmaaRows
import Derived.Test.YtamehlafmfmgmaaFrame
import Derived.Test.YtamehlafmfmgmaaFrameCarry
import Derived.Test.YtamehlafmfmgmaaCarryS
import Derived.Test.YtamehlafmfmgmaaSplitSpec
import Derived.Test.YtamehlafmfmgmaaSplit
namespace Go.Proofs.Ytamehlafmfmgmaa.fnExactSplitCarry
open Go.ChangeShapes Go.WideShapes Go.ChangeAt Go.RowKit
set_option linter.unusedVariables false

theorem own : ownKnob Try.prog.godebug = none := by kernel_rfl

set_option maxHeartbeats 2000000 in
theorem walk (w : World) (v : Value) (n : Nat) (xs : List Int) (hr : Rd w w.heap.size 4 v n xs) (hm : n ≤ maxLen) (p0 : Int) (wp0 : (Lit.int .i64 p0).wf = true) (p1 : Int) (wp1 : (Lit.int .i64 p1).wf = true) (p2 : Int) (wp2 : (Lit.int .i64 p2).wf = true) :
    Calls Try.prog 3 #[v, .int .i64 p0, .int .i64 p1, .int .i64 p2] w fun e w' => e = .returned (.bool true) ∧ Below w.heap.size w w' := by
  obtain ⟨A, c, rfl⟩ := hr.form4
  unfold maxLen at hm
  have Hr := Lib.hid hr
  clear hr
  by_cases hbig : 1048576 < n
  · go_enter Try.func3, Try.ntmps3
    go_wp2_with fail
    refine (szCarryS_no A n c _ _ (by omega) (by omega) (by omega)).mono ?_
    rintro e w' ⟨rfl, rfl⟩
    go_wp2_with fail
    go_ret
    exact ⟨rfl, Below.refl _ _⟩
  · have hn : n ≤ 1099511627776 := by omega
    have hlen : spN n xs p0 p1 p2 ≤ 1099511627776 := by have := spN_le n xs p0 p1 p2; omega
    have hbb : (spB n xs p0 p1 p2 != spB n xs p0 p1 p2) = false := by simp
    obtain ⟨rB, eB⟩ : ∃ r, spB n xs p0 p1 p2 = r := ⟨_, rfl⟩
    obtain ⟨rL, eL⟩ : ∃ r, spL n xs p0 p1 p2 = r := ⟨_, rfl⟩
    obtain ⟨rN, eN⟩ : ∃ r, spN n xs p0 p1 p2 = r := ⟨_, rfl⟩
    have hS := fun (u : Value) (B : Nat) (W : World) (h0 : Cap u) (h1 : Rd W B 4 u n xs) (h2 : B ≤ W.heap.size) => specSplitCarry_any u n B xs p0 p1 p2 W h0 h1 h2 hn
    have hI := fun (u : Value) (B : Nat) (W : World) (h0 : Cap u) (h1 : Rd W B 4 u n xs) (h2 : B ≤ W.heap.size) => SplitCarry_any u n B xs p0 p1 p2 W h0 h1 h2 hn
    rw [eB, eL, eN] at hS hI
    rw [eN] at hlen
    rw [eB] at hbb
    have HS := Lib.hid hS
    have HI := Lib.hid hI
    clear hS hI eB eL eN
    go_enter Try.func3, Try.ntmps3
    go_wp2_with fail
    refine (szCarryS_yes A n c _ _ (by omega) (by omega)).mono ?_
    rintro e w' ⟨rfl, rfl⟩
    go_wp2_with fail
    refine (toCarryS_any _ n _ xs _ Hr.out (Nat.le_refl _) hn).mono ?_
    rintro e w1 ⟨u1, rfl, o1, b1⟩
    go_wp2_with fail
    refine (HS.out u1 _ w1 (Own.of o1).cap (Rd.of_own o1) (Nat.le_refl _)).mono ?_
    rintro e w2 ⟨s0, rfl, o2, b2⟩
    replace b2 := b1.trans (b2.mono b1.size)
    replace q2 := Lib.hid (Own.of o2)
    clear o1 b1 o2
    go_wp2_with fail
    refine (toCarryS_any _ n _ xs _ (Hr.out.below b2) b2.size hn).mono ?_
    rintro e w3 ⟨x1, rfl, o3, b3⟩
    replace q2 := Lib.hid (q2.out.below b3 (Nat.le_refl _))
    replace q3 := Lib.hid (Own.of o3)
    have z3 := b3.size
    replace b3 := b2.trans (b3.mono b2.size)
    clear o3
    go_wp2_with fail
    refine (HI.out x1 _ w3 q3.out.cap q3.out.rd (Nat.le_refl _)).mono ?_
    rintro e w4 ⟨g0, rfl, o4, b4⟩
    replace q2 := Lib.hid (q2.out.below b4 (Nat.le_refl _))
    replace q3 := Lib.hid (q3.out.below b4 (Nat.le_refl _))
    replace q4 := Lib.hid (Own.of o4)
    have z4 := b4.size
    replace b4 := b3.trans (b4.mono b3.size)
    clear o4
    go_wp2_with fail
    refine (eqCarryS_same g0 s0 _ _ rL _ q4.out.rd q2.out.rd (Nat.le_refl _) (by omega)).mono ?_
    rintro e w5 ⟨rfl, b5⟩
    replace q2 := Lib.hid (q2.out.below b5 (Nat.le_refl _))
    replace q3 := Lib.hid (q3.out.below b5 (Nat.le_refl _))
    replace q4 := Lib.hid (q4.out.below b5 (Nat.le_refl _))
    have z5 := b5.size
    replace b5 := b4.trans (b5.mono b4.size)
    go_wp2_with fail
    refine (toCarryS_any _ n _ xs _ (Hr.out.below b5) b5.size hn).mono ?_
    rintro e w6 ⟨x6, rfl, o6, b6⟩
    replace q2 := Lib.hid (q2.out.below b6 (Nat.le_refl _))
    replace q3 := Lib.hid (q3.out.below b6 (Nat.le_refl _))
    replace q4 := Lib.hid (q4.out.below b6 (Nat.le_refl _))
    have z6 := b6.size
    replace b6 := b5.trans (b6.mono b5.size)
    go_wp2_with fail
    refine (eqCarryS_same x1 x6 _ _ xs _ q3.out.rd (Rd.of_own o6) (Nat.le_refl _) hn).mono ?_
    rintro e w7 ⟨rfl, b7⟩
    replace q2 := Lib.hid (q2.out.below b7 (Nat.le_refl _))
    replace q3 := Lib.hid (q3.out.below b7 (Nat.le_refl _))
    replace q4 := Lib.hid (q4.out.below b7 (Nat.le_refl _))
    have z7 := b7.size
    replace b7 := b6.trans (b7.mono b6.size)
    clear o6
    go_wp2_with fail
    refine (markCarryS_any x1 n _ _ 1 _ q3.out.1 (by omega) (by omega) hn).mono ?_
    rintro e w8 ⟨rfl, o8, g8⟩
    replace q2 := Lib.hid (q2.out.other q3.out (.inl (Nat.le_refl _)) g8)
    replace q4 := Lib.hid (q4.out.other q3.out (.inr (Nat.le_refl _)) g8)
    have z8 := g8.size
    replace b8 := q3.out.frame b7 b2.size b7.size g8
    clear o8 g8 q3
    go_wp2_with fail
    refine (eqCarryS_same g0 s0 _ _ rL _ q4.out.rd q2.out.rd (Nat.le_refl _) (by omega)).mono ?_
    rintro e w9 ⟨rfl, b9⟩
    replace q2 := Lib.hid (q2.out.below b9 (Nat.le_refl _))
    replace q4 := Lib.hid (q4.out.below b9 (Nat.le_refl _))
    have z9 := b9.size
    replace b9 := b8.trans (b9.mono b8.size)
    go_wp2_with fail
    refine (markCarryS_any g0 _ _ _ 1 _ q4.out.1 (by omega) (by omega) (by omega)).mono ?_
    rintro e w10 ⟨rfl, o10, g10⟩
    replace q2 := Lib.hid (q2.out.other q4.out (.inl z3) g10)
    replace q5 := Lib.hid (q4.out.after o10)
    have z10 := g10.size
    replace b10 := q4.out.frame b9 b3.size b9.size g10
    clear o10 g10 q4
    go_wp2_with fail
    refine (heldCarryS_marks g0 _ _ 1 _ q5.out.rd (by omega) (by omega) (by omega)).mono ?_
    rintro e w11 ⟨rfl, rfl⟩
    go_wp2_with fail
    refine (toCarryS_any _ n _ xs _ (Hr.out.below b10) b10.size hn).mono ?_
    rintro e w12 ⟨x12, rfl, o12, b12⟩
    replace q2 := Lib.hid (q2.out.below b12 (Nat.le_refl _))
    replace q5 := Lib.hid (q5.out.below b12 (Nat.le_refl _))
    replace b12 := b10.trans (b12.mono b10.size)
    go_wp2_with fail
    refine (HI.out x12 _ w12 (Own.of o12).cap (Rd.of_own o12) (Nat.le_refl _)).mono ?_
    rintro e w13 ⟨h0, rfl, o13, b13⟩
    replace q2 := Lib.hid (q2.out.below b13 (Nat.le_refl _))
    replace q5 := Lib.hid (q5.out.below b13 (Nat.le_refl _))
    replace b13 := b12.trans (b13.mono b12.size)
    clear o12
    go_wp2_with fail
    refine (eqCarryS_same h0 s0 _ _ rL _ (Rd.of_own o13) q2.out.rd (Nat.le_refl _) (by omega)).mono ?_
    rintro e w14 ⟨rfl, b14⟩
    replace q5 := Lib.hid (q5.out.below b14 (Nat.le_refl _))
    replace b14 := b13.trans (b14.mono b13.size)
    clear o13
    go_wp2_with fail
    refine (heldCarryS_marks g0 _ _ 1 _ q5.out.rd (by omega) (by omega) (by omega)).mono ?_
    rintro e w15 ⟨rfl, rfl⟩
    go_wp2_with fail
    go_ret
    exact ⟨rfl, b14⟩

set_option maxRecDepth 100000 in
theorem lifted (os : Os) (started : os.Started) (H : Type) (enc : TypeId × Value → H) :
    ReturnsInHanded {} Try.checked os 3 .any (Rows.fnExactSplitCarrySpec.pre6 enc Try.prog Try.f3 Rows.fnExactSplitCarryRow.domain false) (Rows.fnExactSplitCarrySpec.post enc Try.prog Try.f3 false true false false) := by
  refine returnsInHanded_of_change (C := Try.checked) own started (by kernel_rfl) Try.func3
    (ChangeSpec.witness6 (enc := enc) (C := Try.checked) false ⟨#[], #[.slice none 0 0, .int .i64 0, .int .i64 0, .int .i64 0], []⟩ 8 (by kernel_rfl) (by kernel_rfl) (by kernel_rfl) (by kernel_rfl)) ?_
  intro W base args ds gs before hval0 hW hcnd _
  have hval : ∀ (j : Nat) t v, Try.f3.params[j]? = some t → args[j]? = some v → Value.okWide Try.prog W .any base t v := hval0
  have hW' := hW
  obtain ⟨p, q, hA0, hV, rfl, hfz, hnd⟩ := hW
  have hA : DataW.TrodAll enc Try.prog W 0 (fun _ => true) true Try.f3.params.toList args.toList ds p := hA0
  rw [Try.params3] at hA hval
  obtain ⟨v0, vs0, d0, ds0, p0, q0, hargs, rfl, rfl, h0, r0⟩ := trodAll_cons hA
  obtain ⟨v1, vs1, d1, ds1, p1, q1, rfl, rfl, rfl, h1, r1⟩ := trodAll_cons r0
  obtain ⟨v2, vs2, d2, ds2, p2, q2, rfl, rfl, rfl, h2, r2⟩ := trodAll_cons r1
  obtain ⟨v3, vs3, d3, ds3, p3, q3, rfl, rfl, rfl, h3, r3⟩ := trodAll_cons r2
  obtain ⟨rfl, rfl, rfl⟩ := trodAll_nil r3
  obtain rfl : args = #[v0, v1, v2, v3] := by cases args; simp_all
  obtain ⟨rfl, rfl⟩ := trodVars_none hV
  obtain ⟨n0, xs0, hr0, hm0, hz0⟩ := rd_arg Try.underlying22 (by kernel_rfl) (by omega) (intsOnly_Carry) (hval 0 22 v0 rfl rfl) h0
  obtain ⟨a1, rfl, rfl, rfl, w1⟩ := open_int Try.underlying3 (hval 1 3 v1 rfl rfl) h1
  obtain ⟨a2, rfl, rfl, rfl, w2⟩ := open_int Try.underlying3 (hval 2 3 v2 rfl rfl) h2
  obtain ⟨a3, rfl, rfl, rfl, w3⟩ := open_int Try.underlying3 (hval 3 3 v3 rfl rfl) h3
  refine (walk W v0 n0 xs0 hr0 hm0 a1 w1 a2 w2 a3 w3).mono fun e W' ⟨he, hb⟩ => ?_
  subst he
  exact ⟨_, rfl, law_post (f := Try.f3) rfl (by rw [Try.params3]; intro t ht; simp only [List.mem_cons, List.mem_nil_iff, or_false] at ht; rcases ht with rfl | rfl | rfl | rfl <;> exact ⟨by kernel_rfl, of_decide_eq_true (by kernel_rfl)⟩) rfl hW' rfl rfl rfl hb⟩

theorem over : Rows.fnExactSplitCarryRow.holds Try.pinned (OpenSpec.ofChange Rows.fnExactSplitCarrySpec) :=
  OpenClaim.holds_of_wide 3 Try.f3 rfl rfl rfl rfl rfl rfl rfl ⟨rfl, rfl, rfl, rfl, rfl⟩ rfl rfl rfl rfl rfl (by kernel_rfl) Try.func3 (by kernel_rfl)
    (of_decide_eq_true (by kernel_rfl)) (by unfold Func.isWrapper; first | (rw [if_pos (by decide +kernel)]; kernel_rfl) | (rw [if_neg (by decide +kernel)]; exact ⟨rfl, rfl⟩))
    (fun os started H enc _ => lifted os started H enc)

theorem proved : Rows.FnExactSplitCarrySaid :=
  over
end Go.Proofs.Ytamehlafmfmgmaa.fnExactSplitCarry
