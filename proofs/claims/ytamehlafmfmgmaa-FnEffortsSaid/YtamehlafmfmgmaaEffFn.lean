/- What the law of efforts asks of carries: plain laws. Without conditions. -/
import Derived.Test.YtamehlafmfmgmaaEffort
import Derived.Test.YtamehlafmfmgmaaTooLong
import Derived.Test.YtamehlafmfmgmaaCarrier
import Derived.Test.YtamehlafmfmgmaaSymLaws
import Derived.Test.YtamehlafmfmgmaaHandFn
namespace Go.Proofs.Ytamehlafmfmgmaa
open Go.RowKit

/-! The fewest carriers -/
def fcB (a b c d : Int) : Bool := decide (0 ≤ a ∧ a ≤ 999 ∧ a < b ∧ b ≤ 1000 ∧ 1 ≤ c ∧ c ≤ 999 ∧ 1 ≤ d ∧ d ≤ 999)
def fcW (a b c d : Int) : Int := min ((b - a + c - 1) / c) ((d + c - 1) / c + 1)
def fcV (a b c d : Int) : Int := if fcB a b c d = true then fcW a b c d else 0
theorem fc_yes {a b c d : Int} (h0 : 0 ≤ a) (h1 : a ≤ 999) (h2 : a < b) (h3 : b ≤ 1000) (h4 : 1 ≤ c) (h5 : c ≤ 999) (h6 : 1 ≤ d) (h7 : d ≤ 999) : fcB a b c d = true ∧ fcV a b c d = fcW a b c d := by
  have h : fcB a b c d = true := by simp [fcB]; omega
  exact ⟨h, by rw [fcV, if_pos h]⟩
theorem fc_no {a b c d : Int} (h : ¬ (0 ≤ a ∧ a ≤ 999 ∧ a < b ∧ b ≤ 1000 ∧ 1 ≤ c ∧ c ≤ 999 ∧ 1 ≤ d ∧ d ≤ 999)) : fcB a b c d = false ∧ fcV a b c d = 0 := by
  have h : fcB a b c d = false := by simp only [fcB, decide_eq_false_iff_not]; exact h
  exact ⟨h, by simp [fcV, h]⟩
theorem fcW_lo {a b c d : Int} (h : (b - a + c - 1) / c < (d + c - 1) / c + 1) : fcW a b c d = (b - a + c - 1) / c := by rw [fcW]; omega
theorem fcW_hi {a b c d : Int} (h : (d + c - 1) / c + 1 ≤ (b - a + c - 1) / c) : fcW a b c d = (d + c - 1) / c + 1 := by rw [fcW]; omega
/-- What the law asks of the fewest carriers. -/
structure FewLaw (a b c d v t : Int) : Prop where
  ht : (b - a + c - 1) / c = t
  rng : (0 ≤ a ∧ a ≤ 999) ∧ (a < b ∧ b ≤ 1000) ∧ (1 ≤ c ∧ c ≤ 999) ∧ (1 ≤ d ∧ d ≤ 999)
  tb : 1 ≤ t ∧ t ≤ 2000
  vb : 1 ≤ v ∧ v ≤ t
  m1 : 0 ≤ (v - 1) * c ∧ (v - 1) * c ≤ 2000000
  m2 : 1 < v → 0 ≤ (v - 2) * c ∧ (v - 2) * c ≤ 2000000
  more : v < t → d ≤ (v - 1) * c
  less : 1 < v → v - 1 < t → (v - 2) * c < d
theorem mul_bd {x c : Int} (h0 : 0 ≤ x) (h1 : x ≤ 2000) (h2 : 1 ≤ c) (h3 : c ≤ 999) : 0 ≤ x * c ∧ x * c ≤ 2000000 := by
  have a := Int.mul_nonneg h0 (show (0 : Int) ≤ c by omega)
  have b : x * c ≤ 2000 * c := Int.mul_le_mul_of_nonneg_right h1 (by omega)
  omega
theorem ceil_lo {d c : Int} (hc : 1 ≤ c) : d ≤ (d + c - 1) / c * c := by
  have h := Int.emod_add_mul_ediv (d + c - 1) c
  have h2 := Int.emod_lt_of_pos (d + c - 1) (show 0 < c by omega)
  rw [Int.mul_comm] at h
  omega
theorem ceil_hi {d c : Int} (hc : 1 ≤ c) : ((d + c - 1) / c - 1) * c < d := by
  have h := Int.emod_add_mul_ediv (d + c - 1) c
  have h2 := Int.emod_nonneg (d + c - 1) (show c ≠ 0 by omega)
  rw [Int.mul_comm] at h
  rw [Int.sub_mul, Int.one_mul]
  omega
theorem few_law {a b c d v : Int} (h : fcB a b c d = true) (hv : fcV a b c d = v) : ∃ t, FewLaw a b c d v t := by
  refine ⟨(b - a + c - 1) / c, ?_⟩
  have h' := h
  simp only [fcB, decide_eq_true_eq] at h'
  obtain ⟨h0, h1, h2, h3, h4, h5, h6, h7⟩ := h'
  rw [fcV, if_pos h] at hv
  have r1 : 1 ≤ (d + c - 1) / c := Int.le_ediv_of_mul_le (by omega) (by omega)
  have q1 : 1 ≤ (b - a + c - 1) / c := Int.le_ediv_of_mul_le (by omega) (by omega)
  have q2 : (b - a + c - 1) / c ≤ b - a + c - 1 := Int.ediv_le_self _ (by omega)
  have k1 := ceil_lo (d := d) h4
  have k2 := ceil_hi (d := d) h4
  obtain ⟨R, eR⟩ : ∃ r, (d + c - 1) / c = r := ⟨_, rfl⟩
  obtain ⟨T, eT⟩ : ∃ r, (b - a + c - 1) / c = r := ⟨_, rfl⟩
  rw [eR] at r1 k1 k2
  rw [eT] at q1 q2
  rw [fcW, eR, eT] at hv
  rw [eT]
  have hvT : 1 ≤ v ∧ v ≤ T ∧ v ≤ R + 1 ∧ (v < T → v = R + 1) := by
    omega
  refine ⟨eT, ⟨⟨h0, h1⟩, ⟨h2, h3⟩, ⟨h4, h5⟩, h6, h7⟩, ⟨q1, by omega⟩, ⟨hvT.1, hvT.2.1⟩, mul_bd (by omega) (by omega) h4 h5, fun h => mul_bd (by omega) (by omega) h4 h5, fun h => ?_, fun h1 h2 => ?_⟩
  · rw [show v - 1 = R by have := hvT.2.2.2 h; omega]; exact k1
  · have : (v - 2) * c ≤ (R - 1) * c := Int.mul_le_mul_of_nonneg_right (by omega) (by omega)
    omega
/-! The effort -/
theorem ef_pos {n m : Nat} {xs ws : List Int} {who : Int} (hw : ws.length = m) (h : efB n xs m ws who = true) : 0 ≤ efV n xs m ws who := by
  rw [(ef_yes h).2]
  simp only [efB, Bool.and_eq_true, beq_iff_eq] at h
  have hk := okAll_yes h.1.2
  rw [hw, h.1.1.2] at hk
  exact (efTo_in (gc_yes h.1.1.1) hk who n (Nat.le_refl _)).1
/-! Who carries too long -/
theorem tlTo_mem (n : Nat) (xs : List Int) (lim p : Int) : ∀ k, p ∈ tlTo n xs lim k ↔ (1 ≤ p ∧ p ≤ k ∧ (lgTo xs p n).t - (lgTo xs p n).f > lim)
  | 0 => by simp [tlTo]; omega
  | k + 1 => by
    have ih := tlTo_mem n xs lim p k
    rw [tlTo]
    by_cases hp : p = (k : Int) + 1
    · have hno : ¬ p ∈ tlTo n xs lim k := fun h => by have := (ih.1 h).2.1; omega
      subst hp
      split
      · rename_i h; simp only [List.mem_append, List.mem_singleton, or_true, true_iff]; exact ⟨by omega, by omega, h⟩
      · rename_i h; constructor
        · intro h2; exact absurd h2 hno
        · intro h2; exact absurd h2.2.2 h
    · have e : p ∈ (if (lgTo xs ((k : Int) + 1) n).t - (lgTo xs ((k : Int) + 1) n).f > lim then tlTo n xs lim k ++ [(k : Int) + 1] else tlTo n xs lim k) ↔ p ∈ tlTo n xs lim k := by
        split
        · simp [hp]
        · rfl
      rw [e, ih]
      constructor
      · rintro ⟨h1, h2, h3⟩; exact ⟨h1, by omega, h3⟩
      · rintro ⟨h1, h2, h3⟩; exact ⟨h1, by omega, h3⟩
/-- What the law asks of who carries too long. -/
structure TooLaw (n : Nat) (xs : List Int) (lim p x y : Int) : Prop where
  hx : lcF n xs p = x
  hy : lcT n xs p = y
  bx : 0 ≤ x ∧ x ≤ 1000
  by_ : 0 ≤ y ∧ y ≤ 1000
  has : (tlL n xs lim).any (fun z => z == p) = decide (lim < y - x)
theorem too_law {n : Nat} {xs : List Int} {lim : Int} (h : tlB n xs lim = true) (p : Int) (h1 : 1 ≤ p) (h2 : p ≤ 12) : ∃ x y, TooLaw n xs lim p x y := by
  have h' := h
  simp only [tlB, Bool.and_eq_true] at h'
  have hA : lcA n xs p = true := by simp only [lcA, Bool.and_eq_true]; exact ⟨h'.1, inB_mk h1 h2⟩
  have hy := lc_yes hA
  obtain ⟨o1, o2, _, _⟩ := lgTo_ok (gc_yes h'.1) p n (Nat.le_refl _)
  refine ⟨_, _, hy.1, hy.2.1, o1, o2, ?_⟩
  rw [(tl_yes h).2.1, Bool.eq_iff_iff]
  simp only [List.any_eq_true, beq_iff_eq, exists_eq_right, decide_eq_true_eq]
  rw [tlTo_mem]
  constructor
  · exact fun h => h.2.2
  · exact fun h => ⟨h1, by omega, h⟩
/-! The longest carry is one without a gap, and ends where the performer has nothing. -/
def holds (xs : List Int) (who c : Int) (j : Nat) : Prop := cP xs j = who ∧ cF xs j ≤ c ∧ c < cT xs j
structure LgInv (xs : List Int) (who : Int) (k : Nat) (s : Lg) : Prop where
  cov : ∀ c, s.f ≤ c → c < s.t → ∃ j, j < k ∧ holds xs who c j
  run : ∀ c, s.b ≤ c → c < s.e → ∃ j, j < k ∧ holds xs who c j
  last : ∀ j, j < k → cP xs j = who → cT xs j ≤ s.e
  free : ∀ j, j < k → ¬ holds xs who s.t j
  some : (∃ j, j < k ∧ cP xs j = who) → s.t ≤ s.e ∧ (s.t = s.e → s.f = s.b) ∧ s.e ≤ 1000 ∧ ∃ j, j < k ∧ cP xs j = who ∧ cT xs j = s.e
  none : (¬ ∃ j, j < k ∧ cP xs j = who) → s.f = 0 ∧ s.t = 0 ∧ s.b = 0 ∧ s.e = -1
theorem clash_who {n : Nat} {xs : List Int} (h : GoodC n xs) {j k : Nat} (hk : k < n) (hj : j < k) (hl : cP xs j = cP xs k) : cT xs j ≤ cF xs k := by
  have := h.free k j hk hj
  have e : (cP xs j == cP xs k) = true := by simpa using hl
  simp only [clashAt, e, Bool.or_true, Bool.true_and, decide_eq_false_iff_not] at this
  omega
theorem lg_inv {n : Nat} {xs : List Int} (hg : GoodC n xs) (who : Int) : ∀ k, k ≤ n → LgInv xs who k (lgTo xs who k)
  | 0, _ => ⟨fun c h1 h2 => by simp [lgTo] at h1 h2; omega, fun c h1 h2 => by simp [lgTo] at h1 h2; omega, fun j hj => by omega, fun j hj => by omega, fun ⟨j, hj, _⟩ => by omega, fun _ => by simp [lgTo]⟩
  | k + 1, hk => by
    obtain ⟨cov, run, last, free, some, none⟩ := lg_inv hg who k (by omega)
    obtain ⟨s, es⟩ : ∃ s, lgTo xs who k = s := ⟨_, rfl⟩
    rw [es] at cov run last free some none
    rw [lgTo, es]
    obtain ⟨_, _, g1, g2, g3⟩ := good_in hg (show k < n by omega)
    by_cases hp : cP xs k = who
    · have hlast : ∀ j, j < k + 1 → cP xs j = who → cT xs j ≤ cT xs k := fun j hj h => by
        rcases Nat.lt_or_ge j k with h1 | h1
        · have := clash_who hg (show k < n by omega) h1 (h.trans hp.symm); omega
        · obtain rfl : j = k := by omega
          omega
      have hold : ∀ j, j < k → cP xs j = who → cT xs j ≤ cF xs k := fun j hj h => clash_who hg (show k < n by omega) hj (h.trans hp.symm)
      have hrun : ∀ c, (if cF xs k = s.e then s.b else cF xs k) ≤ c → c < cT xs k → ∃ j, j < k + 1 ∧ holds xs who c j := by
        intro c h1 h2
        by_cases hc : cF xs k ≤ c
        · exact ⟨k, by omega, hp, hc, h2⟩
        · by_cases he : cF xs k = s.e
          · rw [if_pos he] at h1
            obtain ⟨j, hj, h⟩ := run c h1 (by omega)
            exact ⟨j, by omega, h⟩
          · rw [if_neg he] at h1; exact absurd h1 hc
      have hno : ∀ c, cT xs k ≤ c → ∀ j, j < k + 1 → ¬ holds xs who c j := fun c hc j hj ⟨h1, h2, h3⟩ => by have := hlast j hj h1; omega
      unfold lgStep
      rw [if_pos hp]
      by_cases hm : cT xs k - (if cF xs k = s.e then s.b else cF xs k) > s.t - s.f
      · rw [if_pos hm]
        exact ⟨hrun, hrun, hlast, hno _ (Int.le_refl _), fun _ => ⟨Int.le_refl _, fun _ => rfl, g3, k, by omega, hp, rfl⟩, fun h => absurd ⟨k, by omega, hp⟩ h⟩
      · rw [if_neg hm]
        by_cases hs : ∃ j, j < k ∧ cP xs j = who
        · obtain ⟨s1, s2, s3, j0, hj0, hpj, hte⟩ := some hs
          have hek : s.e ≤ cF xs k := by rw [← hte]; exact hold j0 hj0 hpj
          have hne : s.t ≠ cF xs k := by
            intro h
            have he : cF xs k = s.e := by omega
            have := s2 (by omega)
            rw [if_pos he] at hm
            omega
          refine ⟨fun c h1 h2 => ?_, hrun, hlast, fun j hj => ?_, fun _ => ⟨?_, fun h => ?_, g3, k, by omega, hp, rfl⟩, fun h => absurd ⟨k, by omega, hp⟩ h⟩
          · obtain ⟨j, hj, h⟩ := cov c h1 h2; exact ⟨j, by omega, h⟩
          · rcases Nat.lt_or_ge j k with h1 | h1
            · exact free j h1
            · obtain rfl : j = k := by omega
              rintro ⟨_, h2, _⟩
              have : s.t < cF xs j := by omega
              have h2' : cF xs j ≤ s.t := h2
              omega
          · show s.t ≤ cT xs k
            omega
          · have h' : s.t = cT xs k := h
            omega
        · obtain ⟨e1, e2, e3, e4⟩ := none hs
          rw [e1, e2, e3, e4] at hm
          split at hm <;> omega
    · rw [lg_other s hp]
      refine ⟨fun c h1 h2 => ?_, fun c h1 h2 => ?_, fun j hj h => ?_, fun j hj => ?_, fun ⟨j, hj, h⟩ => ?_, fun h => none fun ⟨j, hj, h'⟩ => h ⟨j, by omega, h'⟩⟩
      · obtain ⟨j, hj, h⟩ := cov c h1 h2; exact ⟨j, by omega, h⟩
      · obtain ⟨j, hj, h⟩ := run c h1 h2; exact ⟨j, by omega, h⟩
      · have hne : j ≠ k := fun e => hp (by rw [← e]; exact h)
        exact last j (by omega) h
      · rcases Nat.lt_or_ge j k with h1 | h1
        · exact free j h1
        · obtain rfl : j = k := by omega
          exact fun h => hp h.1
      · have hne : j ≠ k := fun e => hp (by rw [← e]; exact h)
        obtain ⟨s1, s2, s3, j0, hj0, a, b⟩ := some ⟨j, by omega, h⟩
        exact ⟨s1, s2, s3, j0, by omega, a, b⟩
theorem idx_holds {n : Nat} {xs : List Int} {who c : Int} (hw : 1 ≤ who) {j : Nat} (hj : j < n) (h : holds xs who c j) : idxAt n xs 0 who c < n := by
  obtain ⟨s1, s2, s3, s4⟩ := fa_spec (p := isAt xs 0 who c) n 0
  have hat : isAt xs 0 who c j = true := by
    rw [ld_at hw, Bool.and_eq_true, beq_iff_eq]
    exact ⟨h.1, inB_mk h.2.1 (by have := h.2.2; omega)⟩
  unfold idxAt
  rcases Nat.lt_or_ge (fa (isAt xs 0 who c) n 0) n with h1 | h1
  · exact h1
  · have := s4 j (by omega) (by omega)
    rw [hat] at this; cases this
theorem idx_none {n : Nat} {xs : List Int} {who c : Int} (hw : 1 ≤ who) (h : ∀ j, j < n → ¬ holds xs who c j) : ¬ idxAt n xs 0 who c < n := by
  obtain ⟨s1, s2, s3, s4⟩ := fa_spec (p := isAt xs 0 who c) n 0
  intro hlt
  have h1 := s1 (by unfold idxAt at hlt; omega)
  rw [ld_at hw, Bool.and_eq_true, beq_iff_eq] at h1
  have h2 := inB_yes h1.2
  exact h _ hlt ⟨h1.1, h2.1, by have := h2.2; show c < cT xs (fa (isAt xs 0 who c) n 0); omega⟩
/-- What the law asks of the longest carry. -/
structure LongLaw (n : Nat) (xs : List Int) (who a b : Int) : Prop where
  rng : 0 ≤ a ∧ a < b ∧ b ≤ 1000
  yes : ∀ c, a ≤ c → c < b → ldB n xs who c = true
  no : b < 1000 → ldB n xs who b = false
theorem long_law {n : Nat} {xs : List Int} {who a b : Int} (h : lcB n xs who = true) (ha : lcF n xs who = a) (hb : lcT n xs who = b) : LongLaw n xs who a b := by
  have hA : lcA n xs who = true := by simp only [lcB, Bool.and_eq_true] at h; exact h.1
  have hy := lc_yes hA
  rw [hy.2.2] at h
  rw [hy.1] at ha
  rw [hy.2.1] at hb
  have hlt : (lgTo xs who n).f < (lgTo xs who n).t := by simpa using h
  simp only [lcA, Bool.and_eq_true] at hA
  have hg := gc_yes hA.1
  have hw := inB_yes hA.2
  obtain ⟨o1, o2, _, _⟩ := lgTo_ok hg who n (Nat.le_refl _)
  obtain ⟨cov, _, _, free, _, _⟩ := lg_inv hg who n (Nat.le_refl _)
  rw [ha] at hlt o1 cov
  rw [hb] at hlt o2 cov free
  refine ⟨by omega, fun c h1 h2 => ?_, fun h1 => ?_⟩
  · obtain ⟨j, hj, hh⟩ := cov c h1 h2
    simp only [ldB, Bool.and_eq_true, decide_eq_true_eq]
    exact ⟨⟨⟨hA.1, hA.2⟩, inB_mk (by omega) (by omega)⟩, idx_holds hw.1 hj hh⟩
  · have := idx_none hw.1 free
    simp [ldB, this]
/-! What stands behind a split -/
theorem cr_of {n : Nat} {xs : List Int} {q c : Int} {j : Nat} (hg : gcB n xs = true) (hq : inB q 1 9 = true) (hc : inB c 0 999 = true) (hj : j < n) (h1 : cL xs j = q) (h2 : cF xs j ≤ c) (h3 : c < cT xs j) : crB n xs q c = true ∧ crV n xs q c = cP xs j := by
  have hq' := inB_yes hq
  obtain ⟨s1, s2, s3, s4⟩ := fa_spec (p := isAt xs q 0 c) n 0
  have hat : isAt xs q 0 c j = true := by
    rw [cr_at hq'.1, Bool.and_eq_true, beq_iff_eq]
    exact ⟨h1, inB_mk h2 (by omega)⟩
  have hlt : idxAt n xs q 0 c < n := by
    unfold idxAt
    rcases Nat.lt_or_ge (fa (isAt xs q 0 c) n 0) n with h | h
    · exact h
    · have := s4 j (by omega) (by omega)
      rw [hat] at this; cases this
  have hb : crB n xs q c = true := by simp only [crB, Bool.and_eq_true, decide_eq_true_eq]; exact ⟨⟨⟨hg, hq⟩, hc⟩, hlt⟩
  refine ⟨hb, ?_⟩
  rw [(cr_yes hb).2]
  have h4 := s1 (by unfold idxAt at hlt; omega)
  rw [cr_at hq'.1, Bool.and_eq_true, beq_iff_eq] at h4
  have h5 := inB_yes h4.2
  have := load_apart (gc_yes hg) hlt hj (show cL xs (idxAt n xs q 0 c) = cL xs j from h4.1.trans h1.symm) (t := c) h5.1 (by have := h5.2; unfold idxAt; omega) h2 h3
  rw [this]
/-- What the law asks of a carry that was split. -/
structure SplitLaw (n : Nat) (xs : List Int) (t p : Int) (N : Nat) (ys : List Int) (k : Nat) : Prop where
  kn : k < n
  n40 : n ≤ 40
  len : N = n + 1
  good : gcB N ys = true
  rng : (1 ≤ cL xs k ∧ cL xs k ≤ 9) ∧ 0 ≤ cF xs k ∧ cF xs k < t ∧ t < cT xs k ∧ cT xs k ≤ 1000
  old : ∀ c, cF xs k ≤ c → c < t → crB N ys (cL xs k) c = true ∧ crV N ys (cL xs k) c = cP xs k
  new : ∀ c, t ≤ c → c < cT xs k → crB N ys (cL xs k) c = true ∧ crV N ys (cL xs k) c = p
theorem split_law {n : Nat} {xs : List Int} {i t p : Int} (hl : xs.length = n * 4) (h : spB n xs i t p = true) : ∃ k : Nat, i = (k : Int) ∧ SplitLaw n xs t p (spN n xs i t p) (spL n xs i t p) k := by
  have hL : spL n xs i t p = csTo (spX xs i.toNat t p) (n + 1) := by rw [spL, if_pos h]
  have hN : spN n xs i t p = n + 1 := by rw [spN, if_pos h]
  have h' := h
  simp only [spB, spQ, Bool.and_eq_true, Bool.not_eq_true'] at h'
  obtain ⟨⟨h1, h2, h3, h4, h5⟩, hcs⟩ := h'
  have h2' := inB_yes h2
  obtain ⟨k, rfl⟩ := Int.eq_ofNat_of_zero_le h2'.1
  rw [Int.toNat_natCast] at hL h4 h5 hcs
  have hkn : k < n := by omega
  have h4' := inB_yes h4
  have hg := gc_yes h1
  obtain ⟨_, gl, g1, g2, g3⟩ := good_in hg hkn
  have hgood : gcB (n + 1) (csTo (spX xs k t p) (n + 1)) = true := hcs
  obtain ⟨Z, hZl, hZe, hZp, _⟩ := cs_law (spX xs k t p) (n + 1)
  have e : cars (n + 1) (spX xs k t p) = ((cars n xs).set k (cP xs k, cL xs k, cF xs k, t)) ++ [(p, cL xs k, t, cT xs k)] := by
    have hlen : (((cars n xs).set k (cP xs k, cL xs k, cF xs k, t)) ++ [(p, cL xs k, t, cT xs k)]).length = n + 1 := by
      rw [List.length_append, List.length_set, cars_length]; rfl
    apply List.ext_getElem (by rw [cars_length, hlen])
    intro j j1 j2
    have := carAt_flat _ j j2
    rw [← spX_flat hl hkn] at this
    rw [← this]
    simp [cars]
  rw [e] at hZp
  have hfind : ∀ c, c ∈ ((cars n xs).set k (cP xs k, cL xs k, cF xs k, t)) ++ [(p, cL xs k, t, cT xs k)] → ∃ j, j < n + 1 ∧ carAt (csTo (spX xs k t p) (n + 1)) j = c := by
    intro c hc
    obtain ⟨j, hj, rfl⟩ := List.getElem_of_mem (hZp.mem_iff.2 hc)
    exact ⟨j, by omega, by rw [hZe]; exact carAt_flat Z j hj⟩
  rw [hL, hN]
  refine ⟨k, rfl, hkn, hg.len, rfl, hgood, ⟨gl, by omega, by omega, by omega, g3⟩, fun c c1 c2 => ?_, fun c c1 c2 => ?_⟩
  · obtain ⟨j, hj, ej⟩ := hfind (cP xs k, cL xs k, cF xs k, t) (List.mem_append_left _ (List.mem_set (by rw [cars_length]; exact hkn) _))
    simp only [carAt, Prod.mk.injEq] at ej
    have := cr_of hgood (inB_mk gl.1 gl.2) (c := c) (inB_mk (by omega) (by omega)) hj ej.2.1 (by rw [ej.2.2.1]; exact c1) (by rw [ej.2.2.2]; exact c2)
    rw [ej.1] at this
    exact this
  · obtain ⟨j, hj, ej⟩ := hfind (p, cL xs k, t, cT xs k) (List.mem_append_right _ (List.mem_singleton.2 rfl))
    simp only [carAt, Prod.mk.injEq] at ej
    have := cr_of hgood (inB_mk gl.1 gl.2) (c := c) (inB_mk (by omega) (by omega)) hj ej.2.1 (by rw [ej.2.2.1]; exact c1) (by rw [ej.2.2.2]; exact c2)
    rw [ej.1] at this
    exact this
end Go.Proofs.Ytamehlafmfmgmaa
