/- The program's CarriesText returns what the reference's returns, for all arguments. The library's table of powers of ten holds what its own text lays there (the card ties it). -/
import Derived.Test.YtamehlafmfmgmaaDoorRows
import Derived.Test.YtamehlafmfmgmaaDoorFrame
import Derived.Test.YtamehlafmfmgmaaDoorDoorTab
import Derived.Test.YtamehlafmfmgmaaDoorFrameCarry
import Derived.Test.YtamehlafmfmgmaaDoorCarryS
import Derived.Test.YtamehlafmfmgmaaDoorTextSpec
import Derived.Test.YtamehlafmfmgmaaDoorTextImpl
namespace Go.Proofs.YtamehlafmfmgmaaDoor.fnExactCarriesText
open Go.ChangeShapes Go.WideShapes Go.ChangeAt Go.RowKit
set_option linter.unusedVariables false


set_option maxHeartbeats 1000000 in
theorem walk (w : World) (ht : Pow w) (v : Value) (n : Nat) (xs : List Int) (hr : Rd w w.heap.size 4 v n xs) (hm : n ≤ maxLen) :
    Calls Tryd.prog 3 #[v] w fun e w' => e = .returned (.bool true) ∧ Below w.heap.size w w' := by
  obtain ⟨A, c, rfl⟩ := hr.form4
  unfold maxLen at hm
  have Hr := Lib.hid hr
  have HT := Lib.hid ht
  clear hr ht
  by_cases hbig : 1048576 < n
  · go_enter Tryd.func3, Tryd.ntmps3
    go_wp2_with fail
    refine (szCarryS_no A n c _ _ (by omega) (by omega) (by omega)).mono ?_
    rintro e w' ⟨rfl, rfl⟩
    go_wp2_with fail
    go_ret
    exact ⟨rfl, Below.refl _ _⟩
  · have hn : n ≤ 1099511627776 := by omega
    obtain ⟨r0, e0⟩ : ∃ r, txt (ctL n xs) = r := ⟨_, rfl⟩
    obtain ⟨r1, e1⟩ : ∃ r, gcB n xs = r := ⟨_, rfl⟩
    have hS := fun (u : Value) (B : Nat) (W : World) (h0 : Cap u) (h1 : Rd W B 4 u n xs) (h2 : B ≤ W.heap.size) => specCarriesText_any u n B xs W h0 h1 h2 hn
    have hI := fun (u : Value) (B : Nat) (W : World) (hp : Pow W) (h0 : Cap u) (h1 : Rd W B 4 u n xs) (h2 : B ≤ W.heap.size) => CarriesText_any u n B xs W hp h0 h1 h2 hn
    rw [e0, e1] at hS hI
    have HS := Lib.hid hS
    have HI := Lib.hid hI
    clear hS hI e0 e1
    have hb50 : (r0.toList == r0.toList) = true := by simp
    have hb52 : (r0.toList != r0.toList) = false := by simp
    have hb51 : (r1 != r1) = false := by simp
    go_enter Tryd.func3, Tryd.ntmps3
    go_wp2_with fail
    refine (szCarryS_yes A n c _ _ (by omega) (by omega)).mono ?_
    rintro e w' ⟨rfl, rfl⟩
    go_wp2_with fail
    refine (toCarryS_any _ n _ xs _ Hr.out (Nat.le_refl _) hn).mono ?_
    rintro e w1 ⟨u1, rfl, o1, b1⟩
    have q1 := Lib.hid (Own.of o1)
    clear o1
    go_wp2_with fail
    refine (HS.out u1 _ w1 q1.out.cap q1.out.rd (Nat.le_refl _)).mono ?_
    rintro e w2 ⟨rfl, b2⟩
    replace b2 := below_on b1 b2
    clear q1
    go_wp2_with fail
    refine (toCarryS_any _ n _ xs _ (Hr.out.below b2) b2.size hn).mono ?_
    rintro e w3 ⟨x0, rfl, o3, b3⟩
    have q3 := Lib.hid (Own.of o3)
    replace b3 := below_on b2 b3
    clear o3
    go_wp2_with fail
    refine (HI.out x0 _ w3 (HT.out.keep b3) q3.out.cap q3.out.rd (Nat.le_refl _)).mono ?_
    rintro e w4 ⟨rfl, b4⟩
    replace q3 := Lib.hid (q3.out.below b4 (Nat.le_refl _))
    replace b4 := below_on b3 b4
    go_wp2_with fail
    refine (toCarryS_any _ n _ xs _ (Hr.out.below b4) b4.size hn).mono ?_
    rintro e w5 ⟨x5, rfl, o5, b5⟩
    replace q3 := Lib.hid (q3.out.below b5 (Nat.le_refl _))
    have q5 := Lib.hid (Own.of o5)
    replace b5 := below_on b4 b5
    clear o5
    go_wp2_with fail
    refine (eqCarryS_same x0 x5 _ _ xs _ q3.out.rd q5.out.rd (Nat.le_refl _) hn).mono ?_
    rintro e w6 ⟨rfl, b6⟩
    replace b6 := below_on b5 b6
    clear b1 b2 b3 b4 b5 q3 q5
    go_wp2_with fail
    go_ret
    exact ⟨rfl, b6⟩

theorem laid_met (os : Os) : laidMet Tryd.prog Rows.fnExactCarriesTextRow.laid ((laidWorld os).forCall (fun _ _ => 0) ⟨#[], #[.slice none 0 0], []⟩).memory :=
  laidMet_of_run' 8 (by kernel_rfl) (by kernel_rfl)
theorem reads (os : Os) {H : Type} (enc : TypeId × Value → H) : ∃ places, DataW.whole enc Tryd.prog ((laidWorld os).forCall (fun _ _ => 0) ⟨#[], #[.slice none 0 0], []⟩).memory Tryd.f3.params.toList Rows.fnExactCarriesTextSpec.vars false (#[.slice none 0 0] : Array Value).toList 8 = some ([.nil], [], places) :=
  ⟨[], by kernel_rfl⟩

set_option maxRecDepth 100000 in
theorem lifted (os : Os) (started : os.Started) (H : Type) (enc : TypeId × Value → H) (F : Stop.Interp) :
    ReturnsInHanded {} Tryd.checked os 3 .any ((OpenSpec.ofChange Rows.fnExactCarriesTextSpec).preRow enc Tryd.prog Tryd.f3 Rows.fnExactCarriesTextRow.domain false Rows.fnExactCarriesTextRow.laid) (((OpenSpec.ofChange Rows.fnExactCarriesTextSpec).at F).post enc Tryd.prog Tryd.f3 false true false false) := by
  obtain ⟨places, hx⟩ := reads os enc
  refine returnsInHanded_of_row (C := Tryd.checked) (s := OpenSpec.ofChange Rows.fnExactCarriesTextSpec) own started (by kernel_rfl) Tryd.func3
    (witness_row_at (enc := enc) (C := Tryd.checked) false (laidWorld os) #[.slice none 0 0] rfl (by kernel_rfl) (by kernel_rfl) (by kernel_rfl)
      (OpenSpec.preRow_of_cond 8 hx (by kernel_rfl) (fun k hk => by cases hk) (by kernel_rfl) (laid_met os))) ?_
  intro W base args ds gs before hval hW _ _ _ hL _ _
  have hT : Pow W := pow_of_laid hL
  have hW' := hW
  obtain ⟨p, q, hA0, hV, rfl, hfz, hnd⟩ := hW
  have hA : DataW.TrodAll enc Tryd.prog W 0 (fun _ => true) true Tryd.f3.params.toList args.toList ds p := hA0
  rw [Tryd.params3] at hA hval
  obtain ⟨v0, vs0, d0, ds0, p0, q0, hargs, rfl, rfl, h0, r0⟩ := trodAll_cons hA
  obtain ⟨rfl, rfl, rfl⟩ := trodAll_nil r0
  obtain rfl : args = #[v0] := by cases args; simp_all
  obtain ⟨rfl, rfl⟩ := trodVars_none hV
  obtain ⟨n0, xs0, hr0, hm0, hz0⟩ := rd_arg Tryd.underlying22 (by kernel_rfl) (by omega) (intsOnly_Carry) (hval 0 22 v0 rfl rfl) h0
  refine (walk W hT v0 n0 xs0 hr0 hm0).mono fun e W' ⟨he, hb⟩ => ?_
  subst he
  exact ⟨_, rfl, law_post (f := Tryd.f3) rfl (by rw [Tryd.params3]; intro t ht; simp only [List.mem_cons, List.mem_nil_iff, or_false] at ht; subst ht <;> exact ⟨by kernel_rfl, of_decide_eq_true (by kernel_rfl)⟩) rfl hW' rfl rfl rfl hb⟩

theorem said : Rows.FnExactCarriesTextSaid :=
  OpenClaim.holds_of_cond 3 Tryd.f3 rfl rfl rfl rfl rfl rfl rfl ⟨rfl, rfl, rfl, rfl, rfl⟩ rfl rfl rfl rfl rfl (by kernel_rfl) Tryd.func3 (by kernel_rfl)
    (of_decide_eq_true (by kernel_rfl)) (by unfold Func.isWrapper; first | (rw [if_pos (by decide +kernel)]; kernel_rfl) | (rw [if_neg (by decide +kernel)]; exact ⟨rfl, rfl⟩))
    (fun os started H enc _ F => by rw [OpenClaim.pre_eq_preRow]; exact lifted os started H enc F)

/-- No parameter wants a stand-in; the program's own looks are off. -/
theorem plain (f : FuncId) (fn : Func) (hf : Tryd.pinned.checked.prog.funcNamed "loop.example/g00939/laws.FnExactCarriesText" = some f) (hfn : Tryd.pinned.checked.prog.funcs[f]? = some fn) :
    false = Tryd.pinned.checked.prog.looks [] ∧ ∀ (j : Nat) t, fn.params[j]? = some t → Tryd.pinned.checked.prog.wantsStandIn t = false := by
  obtain rfl : f = 3 := Option.some.inj ((show Tryd.prog.funcNamed "loop.example/g00939/laws.FnExactCarriesText" = some 3 by kernel_rfl).symm.trans hf) |>.symm
  obtain rfl : fn = Tryd.f3 := (Option.some.inj (Tryd.func3.symm.trans hfn)).symm
  refine ⟨by kernel_rfl, fun j t ht => ?_⟩
  rw [Tryd.params3] at ht
  have ht := Array.mem_of_getElem? ht
  simp only [List.mem_toArray, List.mem_cons, List.mem_nil_iff, or_false] at ht
  subst ht
  · exact (show Tryd.prog.wantsStandIn 22 = false by kernel_rfl)

theorem proved : Rows.FnExactCarriesTextCardSaid :=
  Claim7.holds_tied_plain_at .later [] _ _ _ _ said (fun _ h => by cases h) (by kernel_rfl) (fun _ h => by cases h) fnExactCarriesText_row_tie rfl ⟨rfl, rfl⟩ (by kernel_rfl) rfl plain (by kernel_rfl)
end Go.Proofs.YtamehlafmfmgmaaDoor.fnExactCarriesText
