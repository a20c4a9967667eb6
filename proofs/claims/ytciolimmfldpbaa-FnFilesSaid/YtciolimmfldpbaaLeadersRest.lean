/- How the corners passed, the length and the spot along a way lie to each other; and a contract of the law's own absolute value. Condition: no great number. -/
import Derived.Test.YtciolimmfldpbaaCorners
import Derived.Test.YtciolimmfldpbaaHas
import Derived.Test.YtciolimmfldpbaaWayLength
import Derived.Test.YtciolimmfldpbaaLeadersFn
import Derived.Test.YtciolimmfldpbaaLeadersCw
namespace Go.Proofs.Ytciolimmfldpbaa
open Go.RowKit

theorem qAbs_any (x : Int) (w : World) (h1 : -1000000 ≤ x) (h2 : x ≤ 1000000) : Calls Try.prog 20 #[.int .i64 x] w fun e w' => e = .returned (.int .i64 (ab x)) ∧ w = w' := by
  by_cases h : x < 0
  · have hf := Lib.hid (ab_neg h)
    go_enter Try.func20, Try.ntmps20
    go_wp2_with fail
    go_ret
    exact ⟨by rw [hf.out]; rfl, rfl⟩
  · have hf := Lib.hid (ab_pos (show 0 ≤ x by omega))
    go_enter Try.func20, Try.ntmps20
    go_wp2_with fail
    go_ret
    exact ⟨by rw [hf.out]; rfl, rfl⟩
theorem far_at {n : Nat} {xs : List Int} {k : Nat} : farAt xs k = ab (X xs (k + 1) - X xs k) + ab (Y xs (k + 1) - Y xs k) := rfl
theorem leaders_rest {n : Nat} {xs : List Int} {t : Int} (h : slB n xs t = true) : ∃ k : Nat, k ≤ n - 1 ∧ cpV n xs t = (k : Int) ∧ lenTo xs k ≤ t ∧ (k = n - 1 ↔ t = wlV n xs) ∧ ab (saX n xs t - X xs k) + ab (saY n xs t - Y xs k) = t - lenTo xs k ∧ (2 ≤ n ∧ n ≤ 12) ∧ onField xs n ∧ ((-(t - lenTo xs k) ≤ saX n xs t - X xs k ∧ saX n xs t - X xs k ≤ t - lenTo xs k) ∧ -(t - lenTo xs k) ≤ saY n xs t - Y xs k ∧ saY n xs t - Y xs k ≤ t - lenTo xs k) ∧ t ≤ lenTo xs (n - 1) ∧ wayB n xs = true := by
  obtain ⟨hw, h0, h1⟩ := slB_yes h
  obtain ⟨hn, hon, hok⟩ := wayB_yes hw
  obtain ⟨k, hk, e, a, b⟩ := cp_char hok h0 (n - 1) (by omega)
  have hwl : wlV n xs = lenTo xs (n - 1) := by simp [wlV, hw]
  obtain ⟨_, ex, ey⟩ := sa_yes h
  have hsum : ab (saX n xs t - X xs k) + ab (saY n xs t - Y xs k) = t - lenTo xs k := by
    rw [ex, ey]
    rcases Nat.lt_or_ge k (n - 1) with g | g
    · exact al_far hok (by omega) a (b g)
    · have hk1 : k = n - 1 := by omega
      have ht : t = lenTo xs (n - 1) := by rw [hk1] at a; omega
      obtain ⟨c, d⟩ := al_end hw
      rw [ht, hk1, c, d]
      simp [ab]
  refine ⟨k, hk, (cp_yes h).trans e, a, ?_, hsum, hn, hon, ?_, h1, hw⟩
  · rw [hwl]
    constructor
    · intro hk1; subst hk1; omega
    · intro ht
      rcases Nat.lt_or_ge k (n - 1) with g | g
      · have := b g
        rcases Nat.lt_or_ge (k + 1) (n - 1) with g2 | g2
        · have := lenTo_lt hok (n - 1) (k + 1) (by omega) g2; omega
        · rw [show n - 1 = k + 1 by omega] at ht; omega
      · omega
  · have r1 : ∀ x : Int, 0 ≤ ab x ∧ x ≤ ab x ∧ -x ≤ ab x := fun x => by unfold ab; split <;> omega
    have := r1 (saX n xs t - X xs k)
    have := r1 (saY n xs t - Y xs k)
    omega
/-- All that the part on counts asks. -/
theorem seven_law {m : Nat} {ys : List Int} {st h4 ll : Int} (h : cwB m ys st = true) (hs : shortBut ys m) (e4 : cwV m ys st = h4) (el : lenTo ys (m - 1) = ll) :
    (laB m ys st h4 = true ∧ laX m ys st h4 = X ys (m - 1) ∧ laY m ys st h4 = Y ys (m - 1)) ∧ (wlV m ys = ll ∧ wayB m ys = true) ∧ (m ≤ 1099511627776 ∧ 0 < m ∧ m - 1 < m) ∧
    ((0 : Int) ≤ (m : Int) - 1 ∧ (m : Int) - 1 < (m : Int) ∧ ((m : Int) - 1).toNat = m - 1 ∧ IntKind.i64.wrap ((m : Int) - 1) = (m : Int) - 1) ∧
    (decide (h4 < 1) = false ∧ decide (h4 * st < ll) = false ∧ decide (ll ≤ (h4 - 1) * st) = false) ∧
    IntKind.i64.wrap (h4 * st) = h4 * st ∧ IntKind.i64.wrap (h4 - 1) = h4 - 1 ∧ IntKind.i64.wrap ((h4 - 1) * st) = (h4 - 1) * st := by
  obtain ⟨hw, hs1, hv, hv1, hv2⟩ := cw_law h hs
  have a := la_end (c := h4) h hs (by rw [e4]; exact Int.le_refl _) (by rw [← e4]; exact hv.2)
  have hm := (wayB_yes hw).1
  rw [e4] at hv hv1 hv2
  rw [el] at hv1 hv2
  have u1 := mul_in (x := h4) (y := st) (a := 10000) (b := 24) (by omega) (by omega) (by omega) (by omega)
  have u2 := mul_in (x := h4 - 1) (y := st) (a := 10000) (b := 24) (by omega) (by omega) (by omega) (by omega)
  refine ⟨a, ⟨by simp [wlV, hw, el], hw⟩, by omega, ⟨by omega, by omega, by omega, IntWalk.i64_in _ (by omega)⟩, ⟨by simp; omega, by simp; omega, by simp; omega⟩, IntWalk.i64_in _ (by omega), IntWalk.i64_in _ (by omega), IntWalk.i64_in _ (by omega)⟩
end Go.Proofs.Ytciolimmfldpbaa
