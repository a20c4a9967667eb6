/- The program's FacingsAfter returns what the reference's returns, for all arguments, and in memory of its own. Without conditions. -/
import Derived.Test.YtcmcpiajbamoaaaRows
import Derived.Test.YtcmcpiajbamoaaaFrame
import Derived.Test.YtcmcpiajbamoaaaFacings
namespace Go.Proofs.Ytcmcpiajbamoaaa.fnExactFacingsAfter
open Go.ChangeShapes Go.WideShapes Go.ChangeAt Go.RowKit
set_option linter.unusedVariables false

theorem own : ownKnob Try.prog.godebug = none := by kernel_rfl

set_option maxHeartbeats 2000000 in
theorem walk (w : World) (f : Int) (_ : (Lit.int .i64 f).wf = true) (v : Value) (n : Nat) (xs : List Int) (hr : Rd w w.heap.size 1 v n xs) (hm : n ≤ maxLen) :
    Calls Try.prog 7 #[.int .i64 f, v] w fun e w' => e = .returned (.bool true) ∧ Below w.heap.size w w' := by
  have hr0 := hr
  obtain ⟨hl, A, c, rfl, hA⟩ := hr
  unfold maxLen at hm
  by_cases hbig : 1048576 < n
  · go_enter Try.func7, Try.ntmps7
    go_wp2
    go_ret
    exact ⟨rfl, Below.refl _ _⟩
  · have hn : n ≤ 1099511627776 := by omega
    have hlen : (faL f xs).length ≤ 40 := by
      unfold faL
      split
      · rename_i h
        rw [faOut_length]
        simp only [faB, Bool.and_eq_true, decide_eq_true_eq] at h
        exact h.1.2
      · simp
    have hbb : (faB f xs != faB f xs) = false := by simp
    obtain ⟨bb, eb⟩ : ∃ b, faB f xs = b := ⟨_, rfl⟩
    obtain ⟨Y, eY⟩ : ∃ Y, faL f xs = Y := ⟨_, rfl⟩
    have HS := fun (u : Value) (B : Nat) (W : World) (h1 : Rd W B 1 u n xs) (h2 : B ≤ W.heap.size) => spec_facings f u n B xs W h1 h2 hn
    have HI := fun (u : Value) (B : Nat) (W : World) (h1 : Rd W B 1 u n xs) (h2 : B ≤ W.heap.size) => impl_facings f u n B xs W h1 h2 hn
    rw [eb, eY] at HS HI
    rw [eb] at hbb
    rw [eY] at hlen
    have Hr := Lib.hid hr0
    have hS := Lib.hid HS
    have hI := Lib.hid HI
    clear hr0 HS HI eb eY hl hA
    go_enter Try.func7, Try.ntmps7
    go_wp2_with fail
    refine (toIntS_any _ n _ xs _ Hr.out (Nat.le_refl _) hn).mono ?_
    rintro e w1 ⟨u1, rfl, o1, b1⟩
    go_wp2_with fail
    refine (hS.out u1 _ w1 (Rd.of_own o1) (Nat.le_refl _)).mono ?_
    rintro e w2 ⟨s0, rfl, o2, b2⟩
    replace b2 := b1.trans (b2.mono b1.size)
    replace q2 := Lib.hid (Own.of o2)
    clear o1 b1 o2
    go_wp2_with fail
    refine (toIntS_any _ n _ xs _ (Hr.out.below b2) b2.size hn).mono ?_
    rintro e w3 ⟨x1, rfl, o3, b3⟩
    replace q2 := Lib.hid (q2.out.below b3 (Nat.le_refl _))
    replace q3 := Lib.hid (Own.of o3)
    have z3 := b3.size
    replace b3 := b2.trans (b3.mono b2.size)
    clear o3
    go_wp2_with fail
    refine (hI.out x1 _ w3 q3.out.rd (Nat.le_refl _)).mono ?_
    rintro e w4 ⟨g0, rfl, o4, b4⟩
    replace q2 := Lib.hid (q2.out.below b4 (Nat.le_refl _))
    replace q3 := Lib.hid (q3.out.below b4 (Nat.le_refl _))
    replace q4 := Lib.hid (Own.of o4)
    have z4 := b4.size
    replace b4 := b3.trans (b4.mono b3.size)
    clear o4
    go_wp2_with fail
    refine (eqIntS_same g0 s0 _ _ Y _ q4.out.rd q2.out.rd (Nat.le_refl _) (by omega)).mono ?_
    rintro e w5 ⟨rfl, b5⟩
    replace q2 := Lib.hid (q2.out.below b5 (Nat.le_refl _))
    replace q3 := Lib.hid (q3.out.below b5 (Nat.le_refl _))
    replace q4 := Lib.hid (q4.out.below b5 (Nat.le_refl _))
    have z5 := b5.size
    replace b5 := b4.trans (b5.mono b4.size)
    go_wp2_with fail
    refine (toIntS_any _ n _ xs _ (Hr.out.below b5) b5.size hn).mono ?_
    rintro e w6 ⟨x6, rfl, o6, b6⟩
    replace q2 := Lib.hid (q2.out.below b6 (Nat.le_refl _))
    replace q3 := Lib.hid (q3.out.below b6 (Nat.le_refl _))
    replace q4 := Lib.hid (q4.out.below b6 (Nat.le_refl _))
    have z6 := b6.size
    replace b6 := b5.trans (b6.mono b5.size)
    go_wp2_with fail
    refine (eqIntS_same x1 x6 _ _ xs _ q3.out.rd (Rd.of_own o6) (Nat.le_refl _) hn).mono ?_
    rintro e w7 ⟨rfl, b7⟩
    replace q2 := Lib.hid (q2.out.below b7 (Nat.le_refl _))
    replace q3 := Lib.hid (q3.out.below b7 (Nat.le_refl _))
    replace q4 := Lib.hid (q4.out.below b7 (Nat.le_refl _))
    have z7 := b7.size
    replace b7 := b6.trans (b7.mono b6.size)
    clear o6
    go_wp2_with fail
    refine (markIntS_any x1 n _ _ 1 _ q3.out.1 (by omega) (by omega) hn).mono ?_
    rintro e w8 ⟨rfl, o8, g8⟩
    replace q2 := Lib.hid (q2.out.other q3.out (.inl (Nat.le_refl _)) g8)
    replace q4 := Lib.hid (q4.out.other q3.out (.inr (Nat.le_refl _)) g8)
    have z8 := g8.size
    replace b8 := q3.out.frame b7 b2.size b7.size g8
    clear o8 g8 q3
    go_wp2_with fail
    refine (eqIntS_same g0 s0 _ _ Y _ q4.out.rd q2.out.rd (Nat.le_refl _) (by omega)).mono ?_
    rintro e w9 ⟨rfl, b9⟩
    replace q2 := Lib.hid (q2.out.below b9 (Nat.le_refl _))
    replace q4 := Lib.hid (q4.out.below b9 (Nat.le_refl _))
    have z9 := b9.size
    replace b9 := b8.trans (b9.mono b8.size)
    go_wp2_with fail
    refine (markIntS_any g0 _ _ _ 1 _ q4.out.1 (by omega) (by omega) (by omega)).mono ?_
    rintro e w10 ⟨rfl, o10, g10⟩
    replace q2 := Lib.hid (q2.out.other q4.out (.inl z3) g10)
    replace q5 := Lib.hid (q4.out.after o10)
    have z10 := g10.size
    replace b10 := q4.out.frame b9 b3.size b9.size g10
    clear o10 g10 q4
    go_wp2_with fail
    refine (heldIntS_marks g0 _ _ 1 _ q5.out.rd (by omega) (by omega) (by omega)).mono ?_
    rintro e w11 ⟨rfl, rfl⟩
    go_wp2_with fail
    refine (toIntS_any _ n _ xs _ (Hr.out.below b10) b10.size hn).mono ?_
    rintro e w12 ⟨x12, rfl, o12, b12⟩
    replace q2 := Lib.hid (q2.out.below b12 (Nat.le_refl _))
    replace q5 := Lib.hid (q5.out.below b12 (Nat.le_refl _))
    replace b12 := b10.trans (b12.mono b10.size)
    go_wp2_with fail
    refine (hI.out x12 _ w12 (Rd.of_own o12) (Nat.le_refl _)).mono ?_
    rintro e w13 ⟨h0, rfl, o13, b13⟩
    replace q2 := Lib.hid (q2.out.below b13 (Nat.le_refl _))
    replace q5 := Lib.hid (q5.out.below b13 (Nat.le_refl _))
    replace b13 := b12.trans (b13.mono b12.size)
    clear o12
    go_wp2_with fail
    refine (eqIntS_same h0 s0 _ _ Y _ (Rd.of_own o13) q2.out.rd (Nat.le_refl _) (by omega)).mono ?_
    rintro e w14 ⟨rfl, b14⟩
    replace q5 := Lib.hid (q5.out.below b14 (Nat.le_refl _))
    replace b14 := b13.trans (b14.mono b13.size)
    clear o13
    go_wp2_with fail
    refine (heldIntS_marks g0 _ _ 1 _ q5.out.rd (by omega) (by omega) (by omega)).mono ?_
    rintro e w15 ⟨rfl, rfl⟩
    go_wp2
    go_ret
    exact ⟨rfl, b14⟩

set_option maxRecDepth 100000 in
theorem lifted (os : Os) (started : os.Started) (H : Type) (enc : TypeId × Value → H) :
    ReturnsInHanded {} Try.checked os 7 .any (Rows.fnExactFacingsAfterSpec.pre6 enc Try.prog Try.f7 Rows.fnExactFacingsAfterRow.domain false) (Rows.fnExactFacingsAfterSpec.post enc Try.prog Try.f7 false true false false) := by
  refine returnsInHanded_of_change (C := Try.checked) own started (by kernel_rfl) Try.func7
    (ChangeSpec.witness6 (enc := enc) (C := Try.checked) false ⟨#[], #[.int .i64 0, .slice none 0 0], []⟩ 8 (by kernel_rfl) (by kernel_rfl) (by kernel_rfl) (by kernel_rfl)) ?_
  intro W base args ds gs before hval0 hW hcnd _
  have hval : ∀ (j : Nat) t v, Try.f7.params[j]? = some t → args[j]? = some v → Value.okWide Try.prog W .any base t v := hval0
  have hW' := hW
  obtain ⟨p, q, hA0, hV, rfl, hfz, hnd⟩ := hW
  have hA : DataW.TrodAll enc Try.prog W 0 (fun _ => true) true Try.f7.params.toList args.toList ds p := hA0
  rw [Try.params7] at hA hval
  obtain ⟨v0, vs0, d0, ds0, p0, q0, hargs, rfl, rfl, h0, r0⟩ := trodAll_cons hA
  obtain ⟨v1, vs1, d1, ds1, p1, q1, rfl, rfl, rfl, h1, r1⟩ := trodAll_cons r0
  obtain ⟨rfl, rfl, rfl⟩ := trodAll_nil r1
  obtain rfl : args = #[v0, v1] := by cases args; simp_all
  obtain ⟨rfl, rfl⟩ := trodVars_none hV
  obtain ⟨a0, rfl, rfl, rfl, w0⟩ := open_int Try.underlying3 (hval 0 3 v0 rfl rfl) h0
  obtain ⟨n1, xs1, hr1, hm1, hz1⟩ := rd_arg Try.underlying29 (by kernel_rfl) (by omega) (intsOnly_int) (hval 1 29 v1 rfl rfl) h1
  refine (walk W a0 w0 v1 n1 xs1 hr1 hm1).mono fun e W' ⟨he, hb⟩ => ?_
  subst he
  exact ⟨_, rfl, law_post (f := Try.f7) rfl (by rw [Try.params7]; intro t ht; simp only [List.mem_cons, List.mem_nil_iff, or_false] at ht; rcases ht with rfl | rfl <;> exact ⟨by kernel_rfl, of_decide_eq_true (by kernel_rfl)⟩) rfl hW' rfl rfl rfl hb⟩

theorem over : Rows.fnExactFacingsAfterRow.holds Try.pinned (OpenSpec.ofChange Rows.fnExactFacingsAfterSpec) :=
  OpenClaim.holds_of_wide 7 Try.f7 rfl rfl rfl rfl rfl rfl rfl ⟨rfl, rfl, rfl, rfl, rfl⟩ rfl rfl rfl rfl rfl (by kernel_rfl) Try.func7 (by kernel_rfl)
    (of_decide_eq_true (by kernel_rfl)) (by unfold Func.isWrapper; first | (rw [if_pos (by decide +kernel)]; kernel_rfl) | (rw [if_neg (by decide +kernel)]; exact ⟨rfl, rfl⟩))
    (fun os started H enc _ => lifted os started H enc)

theorem proved : Rows.FnExactFacingsAfterSaid :=
  over
end Go.Proofs.Ytcmcpiajbamoaaa.fnExactFacingsAfter
