/- The contract of the reference's l1All. Condition: the slice can be read. -/
import Derived.Test.YtamehlafmfmgmaaLists
import Derived.Test.YtamehlafmfmgmaaIn
namespace Go.Proofs.Ytamehlafmfmgmaa
open Go.RowKit

/-- The first k numbers lie in a range. -/
def okTo (lo hi : Int) (xs : List Int) (k : Nat) : Prop := ∀ i, i < k → lo ≤ xs.getD i 0 ∧ xs.getD i 0 ≤ hi
def okAll (lo hi : Int) (xs : List Int) : Bool := xs.all fun x => inB x lo hi
theorem okAll_yes {lo hi : Int} {xs : List Int} (h : okAll lo hi xs = true) : okTo lo hi xs xs.length := by
  intro i hi'
  simp only [okAll, List.all_eq_true] at h
  have := h _ (List.getElem_mem hi')
  simpa [List.getD, hi'] using inB_yes this
theorem okAll_mk {lo hi : Int} {xs : List Int} (h : okTo lo hi xs xs.length) : okAll lo hi xs = true := by
  simp only [okAll, List.all_eq_true]
  intro x hx
  obtain ⟨i, hi', rfl⟩ := List.getElem_of_mem hx
  have := h i hi'
  simp only [List.getD, List.getElem?_eq_getElem hi', Option.getD_some] at this
  exact inB_mk this.1 this.2
theorem okAll_no {lo hi : Int} {xs : List Int} {i : Nat} (hi' : i < xs.length) (h : xs.getD i 0 < lo ∨ hi < xs.getD i 0) : okAll lo hi xs = false := by
  cases hh : okAll lo hi xs with
  | false => rfl
  | true => have := okAll_yes hh i hi'; omega

set_option maxHeartbeats 400000 in
theorem l1All_any (v : Value) (n B : Nat) (xs : List Int) (lo hi : Int) (w : World) (hv : Rd w B 1 v n xs) (hn : n ≤ 1099511627776) :
    Calls Try.prog 48 #[v, .int .i64 lo, .int .i64 hi] w fun e w' => e = .returned (.bool (okAll lo hi xs)) ∧ w = w' := by
  obtain ⟨hl, A, c, rfl, hA⟩ := hv
  rw [Nat.mul_one] at hl
  have Hl := Lib.hid hl
  clear hl
  go_enter Try.func48, Try.ntmps48
  go_wp2
  go_loop [11] (fun i => ∃ k : Nat, k ≤ n ∧ i = .int .i64 k ∧ okTo lo hi xs k) (fun i => n - (intOf i).toNat)
  case atStart => exact ⟨0, Nat.zero_le _, rfl, fun i h => absurd h (by omega)⟩
  case round =>
    obtain ⟨k, hk, rfl, hok⟩ := hrel
    have HK := Lib.hid hok
    clear hok
    by_cases hlt : k < n
    · obtain ⟨b, off, rfl, hbB, hc⟩ := hA (by omega)
      have hcell := hc k (by omega)
      obtain ⟨x, hx⟩ : ∃ x, xs.getD k 0 = x := ⟨_, rfl⟩
      rw [hx] at hcell
      have Hx := Lib.hid hx
      clear hc hA hx
      cases hin : inB x lo hi with
      | true =>
        have Hin := Lib.hid hin
        go_wp2_with (go_at_call 32; refine (l1In_any _ _ _ _).mono ?_; rintro e w' ⟨rfl, rfl⟩)
        go_round
        case rel =>
          refine ⟨k + 1, by omega, by go_num, fun i hi' => ?_⟩
          rcases Nat.lt_succ_iff_lt_or_eq.1 hi' with h | rfl
          · exact HK.out i h
          · rw [Hx.out]; exact inB_yes Hin.out
        case measure => simp [intOf]; omega
      | false =>
        have HF := Lib.hid (okAll_no (lo := lo) (hi := hi) (xs := xs) (i := k) (by rw [Hl.out]; exact hlt) (by rw [Hx.out]; exact inB_no hin))
        go_wp2_with (go_at_call 32; refine (l1In_any _ _ _ _).mono ?_; rintro e w' ⟨rfl, rfl⟩)
        go_ret
        exact ⟨by rw [HF.out]; rfl, rfl⟩
    · have HF := Lib.hid (okAll_mk (lo := lo) (hi := hi) (xs := xs) (by rw [Hl.out]; have : k = n := by omega
                                                                        rw [← this]; exact HK.out))
      clear hA
      go_wp2
      go_ret
      exact ⟨by rw [HF.out]; rfl, rfl⟩

end Go.Proofs.Ytamehlafmfmgmaa
