/- Contracts of the two ConflictPairs. Conditions: the transition's slices can be read, and are short. -/
import Derived.Test.YtpikhkdgohapeaaPairsSpec
namespace Go.Proofs.Ytpikhkdgohapeaa
open Go.RowKit

theorem isLeast_any (L : Int) (w : World) : Calls Try.prog 56 #[.int .i64 L] w fun e w' => e = .returned (.bool (inB L 0 80)) ∧ w = w' := by
  go_enter Try.func56, Try.ntmps56
  go_wp2_with fail
  refine (within_any _ _ _ _).mono ?_
  rintro e w' ⟨rfl, rfl⟩
  go_wp2_with fail
  go_ret
  exact ⟨rfl, rfl⟩
theorem apDistance_any (L : Int) (w : World) : Calls Try.prog 84 #[.int .i64 L] w fun e w' => e = .returned (.bool (inB L 0 80)) ∧ w = w' := by
  go_enter Try.func84, Try.ntmps84
  go_wp2_with fail
  refine (l1In_any _ _ _ _).mono ?_
  rintro e w' ⟨rfl, rfl⟩
  go_wp2_with fail
  go_ret
  exact ⟨rfl, rfl⟩
theorem cp_in {t : TrN} {L : Int} (h : cpB t L = true) : trB t = true ∧ 0 ≤ L ∧ L ≤ 80 := by
  simp only [cpB, Bool.and_eq_true] at h
  have := inB_yes h.2
  exact ⟨h.1, this.1, this.2⟩
set_option maxHeartbeats 1000000 in
theorem cfAsked_any (v : Value) (B : Nat) (t : TrN) (L : Int) (w : World) (hcp : CapT v) (hv : RdT w B v t) (hB : B ≤ w.heap.size) (hs : t.small) :
    Calls Try.prog 53 #[v, .int .i64 L] w fun e w' => e = .returned (.bool (cpB t L)) ∧ Below w.heap.size w w' := by
  obtain ⟨A, ca, C, cb, D, cc, rfl, _, _, _⟩ := hv.form
  have hb0 : Below w.heap.size w (w.alloc (.cells #[.slice A t.n ca, .slice C t.m cb, .int .i64 t.c, .slice D t.p cc] 43)) := below_new (Below.refl _ _) _
  have k0 := Blk.new w 43 #[.slice A t.n ca, .slice C t.m cb, .int .i64 t.c, .slice D t.p cc]
  have Hv := Lib.hid (fun W (hb : Below w.heap.size w W) => hv.below' hb hB)
  have Hc := Lib.hid hcp
  have HB0 := Lib.hid hb0
  have K0 := Lib.hid k0
  obtain ⟨a0, a1, a2, a3⟩ := k0.c4
  clear hv hcp hb0 k0
  have P := asGood_any _ B t _ Hc.out (Hv.out _ HB0.out) (Nat.le_trans hB HB0.out.size) hs
  have Q := fun W => apDistance_any L W
  have hT : cpB t L = (trB t && inB L 0 80) := rfl
  obtain ⟨b1, e1⟩ : ∃ b, trB t = b := ⟨_, rfl⟩
  obtain ⟨b2, e2⟩ : ∃ b, inB L 0 80 = b := ⟨_, rfl⟩
  rw [e1] at P hT
  rw [e2] at Q hT
  have HP := Lib.hid P
  have HQ := Lib.hid Q
  have HT := Lib.hid hT
  clear P Q hT e1 e2
  cases b1 with
  | false =>
    go_enter Try.func53, Try.ntmps53
    go_wp2_with fail
    refine HP.out.mono ?_
    rintro e w2 ⟨rfl, h2⟩
    have HB1 := Lib.hid (below_on HB0.out h2)
    have K1 := Lib.hid (K0.out.on h2)
    clear h2 a0 a1 a2 a3 HB0 K0
    have HB0 := HB1
    have K0 := K1
    clear HB1 K1
    obtain ⟨a0, a1, a2, a3⟩ := K0.out.c4
    go_wp2_with fail
    go_ret
    exact ⟨by rw [HT.out]; rfl, HB0.out⟩
  | true =>
    go_enter Try.func53, Try.ntmps53
    go_wp2_with fail
    refine HP.out.mono ?_
    rintro e w2 ⟨rfl, h2⟩
    have HB1 := Lib.hid (below_on HB0.out h2)
    have K1 := Lib.hid (K0.out.on h2)
    clear h2 a0 a1 a2 a3 HB0 K0
    have HB0 := HB1
    have K0 := K1
    clear HB1 K1
    obtain ⟨a0, a1, a2, a3⟩ := K0.out.c4
    go_wp2_with fail
    refine (HQ.out _).mono ?_
    rintro e w3 ⟨rfl, rfl⟩
    go_wp2_with fail
    go_ret
    exact ⟨by rw [HT.out]; rfl, HB0.out⟩
end Go.Proofs.Ytpikhkdgohapeaa
