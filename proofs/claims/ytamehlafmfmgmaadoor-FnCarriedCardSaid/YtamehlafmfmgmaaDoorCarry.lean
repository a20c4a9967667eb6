/- Contracts of the program's test on one carry and of its comparison of two. Condition of the second: both are valid. -/
import Derived.Test.YtamehlafmfmgmaaDoorCarryFn
namespace Go.Proofs.YtamehlafmfmgmaaDoor
open Go.RowKit

theorem isCarry_any (p l f t : Int) (w : World) : Calls Tryd.prog 45 #[(Value.agg #[Value.int .i64 p, Value.int .i64 l, Value.int .i64 f, Value.int .i64 t])] w fun e w' => e = .returned (.bool (caB p l f t)) ∧ Below w.heap.size w w' := by
  cases h1 : inB p 1 12 with
  | false =>
    have hf := Lib.hid (show caB p l f t = false by simp [caB, h1])
    go_enter Tryd.func45, Tryd.ntmps45
    go_wp2_with (go_at_call 37; refine (within_any _ _ _ _).mono ?_; rintro e w' ⟨rfl, rfl⟩)
    go_ret
    exact ⟨by rw [hf.out]; rfl, (Below.refl _ _).alloc (Nat.le_refl _) _⟩
  | true =>
    cases h2 : inB l 1 9 with
    | false =>
      have hf := Lib.hid (show caB p l f t = false by simp [caB, h2])
      go_enter Tryd.func45, Tryd.ntmps45
      go_wp2_with (go_at_call 37; refine (within_any _ _ _ _).mono ?_; rintro e w' ⟨rfl, rfl⟩)
      go_ret
      exact ⟨by rw [hf.out]; rfl, (Below.refl _ _).alloc (Nat.le_refl _) _⟩
    | true =>
      by_cases h3 : 0 ≤ f
      · by_cases h4 : f < t
        · by_cases h5 : t ≤ 1000
          · have hf := Lib.hid (show caB p l f t = true by simp [caB, h1, h2, h3, h4, h5])
            have hd5 : decide (t ≤ 1000) = true := by simp [h5]
            go_enter Tryd.func45, Tryd.ntmps45
            go_wp2_with (go_at_call 37; refine (within_any _ _ _ _).mono ?_; rintro e w' ⟨rfl, rfl⟩)
            go_ret
            exact ⟨by rw [hf.out]; rfl, (Below.refl _ _).alloc (Nat.le_refl _) _⟩
          · have hf := Lib.hid (show caB p l f t = false by simp [caB, h5])
            have hd5 : decide (t ≤ 1000) = false := by simp [h5]
            go_enter Tryd.func45, Tryd.ntmps45
            go_wp2_with (go_at_call 37; refine (within_any _ _ _ _).mono ?_; rintro e w' ⟨rfl, rfl⟩)
            go_ret
            exact ⟨by rw [hf.out]; rfl, (Below.refl _ _).alloc (Nat.le_refl _) _⟩
        · have hf := Lib.hid (show caB p l f t = false by simp [caB, h4])
          go_enter Tryd.func45, Tryd.ntmps45
          go_wp2_with (go_at_call 37; refine (within_any _ _ _ _).mono ?_; rintro e w' ⟨rfl, rfl⟩)
          go_ret
          exact ⟨by rw [hf.out]; rfl, (Below.refl _ _).alloc (Nat.le_refl _) _⟩
      · have hf := Lib.hid (show caB p l f t = false by simp [caB, h3])
        go_enter Tryd.func45, Tryd.ntmps45
        go_wp2_with (go_at_call 37; refine (within_any _ _ _ _).mono ?_; rintro e w' ⟨rfl, rfl⟩)
        go_ret
        exact ⟨by rw [hf.out]; rfl, (Below.refl _ _).alloc (Nat.le_refl _) _⟩

/-- What compareCarries returns. -/
def cmpV (l f l' f' : Int) : Int := if f = f' then l - l' else f - f'
theorem cmp_bef (l f l' f' : Int) : decide (cmpV l f l' f' < 0) = befB l f l' f' := by
  rw [Bool.eq_iff_iff]
  simp only [befB, decide_eq_true_eq, Bool.or_eq_true, Bool.and_eq_true, beq_iff_eq]
  unfold cmpV
  split <;> omega
theorem compareCarries_any (p l f t p' l' f' t' : Int) (w : World) (h : caB p l f t = true) (h' : caB p' l' f' t' = true) :
    Calls Tryd.prog 46 #[(Value.agg #[Value.int .i64 p, Value.int .i64 l, Value.int .i64 f, Value.int .i64 t]), (Value.agg #[Value.int .i64 p', Value.int .i64 l', Value.int .i64 f', Value.int .i64 t'])] w fun e w' => e = .returned (.int .i64 (cmpV l f l' f')) ∧ Below w.heap.size w w' := by
  obtain ⟨a1, ⟨a2, a3⟩, a4, a5, a6⟩ := caB_yes h
  obtain ⟨b1, ⟨b2, b3⟩, b4, b5, b6⟩ := caB_yes h'
  clear h h' a1 b1
  by_cases he : f = f'
  · have hf := Lib.hid (show cmpV l f l' f' = l - l' by simp [cmpV, he])
    have hne : (f != f') = false := by simp [he]
    clear he
    go_enter Tryd.func46, Tryd.ntmps46
    go_wp2_with fail
    go_ret
    exact ⟨by rw [hf.out]; rfl, ((Below.refl _ _).alloc (Nat.le_refl _) _).alloc (by simp) _⟩
  · have hf := Lib.hid (show cmpV l f l' f' = f - f' by simp [cmpV, he])
    have hne : (f != f') = true := by simp [he]
    clear he
    go_enter Tryd.func46, Tryd.ntmps46
    go_wp2_with fail
    go_ret
    exact ⟨by rw [hf.out]; rfl, ((Below.refl _ _).alloc (Nat.le_refl _) _).alloc (by simp) _⟩
end Go.Proofs.YtamehlafmfmgmaaDoor
