/- How great the numbers become in the search for the least distance of two moves with delays: plain laws, without conditions. -/
import Derived.Test.YtpikhkdgohapeaaDelayFn
import Derived.Test.YtpikhkdgohapeaaDelayed
namespace Go.Proofs.Ytpikhkdgohapeaa
theorem pa_in {x z c k : Int} (hx : 0 ≤ x) (hx2 : x ≤ 1280) (hz : 0 ≤ z) (hz2 : z ≤ 1280) (hk : 0 ≤ k) (hkc : k ≤ c) (hc : c ≤ 16) : 0 ≤ paX x z c k ∧ paX x z c k ≤ 20480 := by
  have e : paX x z c k = x * (c - k) + z * k := by
    unfold paX
    rw [Int.mul_sub, Int.mul_sub, Int.mul_comm k z, Int.mul_comm k x]; omega
  have a1 : 0 ≤ x * (c - k) := Int.mul_nonneg hx (by omega)
  have a2 : x * (c - k) ≤ 1280 * (c - k) := Int.mul_le_mul_of_nonneg_right hx2 (by omega)
  have a3 : 0 ≤ z * k := Int.mul_nonneg hz hk
  have a4 : z * k ≤ 1280 * k := Int.mul_le_mul_of_nonneg_right hz2 hk
  omega
theorem dl_in {c d : Int} (hc : 1 ≤ c) (hd : 0 ≤ d) (k : Nat) : 0 ≤ dlK c d (k : Int) ∧ dlK c d (k : Int) ≤ c := by unfold dlK; omega
theorem dl_step {c d : Int} (hc : 1 ≤ c) (hd : 0 ≤ d) (k : Nat) : dlK c d ((k + 1 : Nat) : Int) = dlK c d (k : Int) ∨ dlK c d ((k + 1 : Nat) : Int) = dlK c d (k : Int) + 1 := by unfold dlK; omega
theorem dl_zero {c d : Int} (hc : 1 ≤ c) (hd : 0 ≤ d) : dlK c d 0 = 0 := by unfold dlK; omega
theorem pa_step {x z c k k' : Int} (h : k' = k ∨ k' = k + 1) : paX x z c k' - paX x z c k = 0 ∨ paX x z c k' - paX x z c k = z - x := by
  unfold paX
  rcases h with rfl | rfl
  · left; omega
  · right; rw [Int.add_mul]; omega
/-- The way from the second one to the first one, times the counts, after a count. -/
def wyT (x z u r c p q : Int) (k : Nat) : Int := paX x z c (dlK c p (k : Int)) - paX u r c (dlK c q (k : Int))
def Steps (f : Nat → Int) : Prop := ∀ k, (-20480 ≤ f k ∧ f k ≤ 20480) ∧ -2560 ≤ f (k + 1) - f k ∧ f (k + 1) - f k ≤ 2560
theorem wy_steps {x z u r c p q : Int} (hx : 0 ≤ x ∧ x ≤ 1280) (hz : 0 ≤ z ∧ z ≤ 1280) (hu : 0 ≤ u ∧ u ≤ 1280) (hr : 0 ≤ r ∧ r ≤ 1280) (hc1 : 1 ≤ c) (hc : c ≤ 16) (hp : 0 ≤ p) (hq : 0 ≤ q) : Steps (wyT x z u r c p q) := by
  intro k
  have i1 := dl_in hc1 hp k
  have i2 := dl_in hc1 hq k
  have b1 := pa_in hx.1 hx.2 hz.1 hz.2 i1.1 i1.2 hc
  have b2 := pa_in hu.1 hu.2 hr.1 hr.2 i2.1 i2.2 hc
  have s1 := pa_step (x := x) (z := z) (c := c) (dl_step hc1 hp k)
  have s2 := pa_step (x := u) (z := r) (c := c) (dl_step hc1 hq k)
  unfold wyT
  omega
/-- The numbers of one part of the way: from (d, e) to (q, r). -/
structure Part (d e q r : Int) : Prop where
  m1 : -52428800 ≤ d * (q - d) ∧ d * (q - d) ≤ 52428800
  m2 : -52428800 ≤ e * (r - e) ∧ e * (r - e) ≤ 52428800
  m3 : 0 ≤ (q - d) * (q - d) ∧ (q - d) * (q - d) ≤ 6553600
  m4 : 0 ≤ (r - e) * (r - e) ∧ (r - e) * (r - e) ≤ 6553600
  m5 : -52428800 ≤ d * (r - e) ∧ d * (r - e) ≤ 52428800
  m6 : -52428800 ≤ e * (q - d) ∧ e * (q - d) ≤ 52428800
  m7 : 0 ≤ q * q ∧ q * q ≤ 419430400
  m8 : 0 ≤ r * r ∧ r * r ≤ 419430400
  m9 : 0 ≤ d * d ∧ d * d ≤ 419430400
  m10 : 0 ≤ e * e ∧ e * e ≤ 419430400
  m11 : -419430400 ≤ d * r ∧ d * r ≤ 419430400
  m12 : -419430400 ≤ e * q ∧ e * q ≤ 419430400
  dt : dtOf d e q r = d * (q - d) + e * (r - e)
  sz : szOf d e q r = (q - d) * (q - d) + (r - e) * (r - e)
  cr : crOf d e q r = d * (r - e) - e * (q - d)
  cr2 : d * r - e * q = crOf d e q r
  cc : 0 ≤ crOf d e q r * crOf d e q r ∧ crOf d e q r * crOf d e q r ≤ 10995116277760000
theorem part_ok {d e q r : Int} (h1 : -20480 ≤ d ∧ d ≤ 20480) (h2 : -20480 ≤ e ∧ e ≤ 20480) (h3 : -20480 ≤ q ∧ q ≤ 20480) (h4 : -20480 ≤ r ∧ r ≤ 20480) (h5 : -2560 ≤ q - d ∧ q - d ≤ 2560) (h6 : -2560 ≤ r - e ∧ r - e ≤ 2560) : Part d e q r := by
  have n5 := mul_wide (x := d) (y := r - e) (a := 20480) (b := 2560) (by omega) (by omega) (by omega) (by omega)
  have n6 := mul_wide (x := e) (y := q - d) (a := 20480) (b := 2560) (by omega) (by omega) (by omega) (by omega)
  have hcr : crOf d e q r = d * (r - e) - e * (q - d) := rfl
  refine ⟨mul_wide (x := d) (y := q - d) (a := 20480) (b := 2560) (by omega) (by omega) (by omega) (by omega), mul_wide (x := e) (y := r - e) (a := 20480) (b := 2560) (by omega) (by omega) (by omega) (by omega),
    ⟨sq0 _, (mul_wide (x := q - d) (y := q - d) (a := 2560) (b := 2560) (by omega) (by omega) (by omega) (by omega)).2⟩,
    ⟨sq0 _, (mul_wide (x := r - e) (y := r - e) (a := 2560) (b := 2560) (by omega) (by omega) (by omega) (by omega)).2⟩, n5, n6,
    ⟨sq0 _, (mul_wide (x := q) (y := q) (a := 20480) (b := 20480) (by omega) (by omega) (by omega) (by omega)).2⟩,
    ⟨sq0 _, (mul_wide (x := r) (y := r) (a := 20480) (b := 20480) (by omega) (by omega) (by omega) (by omega)).2⟩,
    ⟨sq0 _, (mul_wide (x := d) (y := d) (a := 20480) (b := 20480) (by omega) (by omega) (by omega) (by omega)).2⟩,
    ⟨sq0 _, (mul_wide (x := e) (y := e) (a := 20480) (b := 20480) (by omega) (by omega) (by omega) (by omega)).2⟩,
    mul_wide (x := d) (y := r) (a := 20480) (b := 20480) (by omega) (by omega) (by omega) (by omega), mul_wide (x := e) (y := q) (a := 20480) (b := 20480) (by omega) (by omega) (by omega) (by omega),
    rfl, rfl, hcr, cr_eq _ _ _ _, sq0 _, ?_⟩
  exact (mul_wide (x := crOf d e q r) (y := crOf d e q r) (a := 104857600) (b := 104857600) (by omega) (by omega) (by omega) (by omega)).2
theorem Steps.part {f g : Nat → Int} (hf : Steps f) (hg : Steps g) (j : Nat) : Part (f j) (g j) (f (j + 1)) (g (j + 1)) :=
  part_ok (hf j).1 (hg j).1 (hf (j + 1)).1 (hg (j + 1)).1 (hf j).2 (hg j).2
theorem Part.own {d e q r : Int} (h : Part d e q r) : 0 ≤ owT d e q r ∧ owT d e q r ≤ 10995116277760000 ∧ 0 ≤ rwT d e q r ∧ rwT d e q r ≤ 10995116277760000 ∧ 1 ≤ rwB d e q r ∧ rwB d e q r ≤ 13107200 := by
  have h1 := owT0 d e q r
  have h2 := rwT0 d e q r
  have h3 := rwB_pos d e q r
  have a7 := h.m7; have a8 := h.m8; have a9 := h.m9; have a10 := h.m10; have ac := h.cc; have az := h.sz; have a3 := h.m3; have a4 := h.m4
  refine ⟨h1, ?_, h2, ?_, by omega, ?_⟩
  · unfold owT; split <;> omega
  · unfold rwT; split <;> omega
  · unfold rwB; split <;> omega
theorem ldI_in {f g : Nat → Int} (hf : Steps f) (hg : Steps g) : ∀ j, (0 ≤ (ldI f g j).1 ∧ (ldI f g j).1 ≤ 10995116277760000) ∧ 1 ≤ (ldI f g j).2 ∧ (ldI f g j).2 ≤ 13107200
  | 0 => by
    have h := hf.part hg 0
    have := h.m9; have := h.m10
    show (0 ≤ f 0 * f 0 + g 0 * g 0 ∧ f 0 * f 0 + g 0 * g 0 ≤ 10995116277760000) ∧ (1 : Int) ≤ 1 ∧ (1 : Int) ≤ 13107200
    omega
  | j + 1 => by
    have h := (hf.part hg j).own
    have ih := ldI_in hf hg j
    rw [ldI, fmin]
    split
    · exact ⟨⟨h.1, h.2.1⟩, h.2.2.2.2⟩
    · exact ih
theorem ldS_in {f g : Nat → Int} (hf : Steps f) (hg : Steps g) : ∀ j, (-1 ≤ (ldS f g j).1 ∧ (ldS f g j).1 ≤ 10995116277760000) ∧ 1 ≤ (ldS f g j).2 ∧ (ldS f g j).2 ≤ 13107200
  | 0 => by
    show ((-1 : Int) ≤ -1 ∧ (-1 : Int) ≤ 10995116277760000) ∧ (1 : Int) ≤ 1 ∧ (1 : Int) ≤ 13107200
    omega
  | j + 1 => by
    have h := (hf.part hg j).own
    have ih := ldS_in hf hg j
    have h0 : -1 ≤ rwT (f j) (g j) (f (j + 1)) (g (j + 1)) := by omega
    rw [ldS]
    split
    · exact ⟨⟨h0, h.2.2.2.1⟩, h.2.2.2.2⟩
    · rw [fmin]
      split
      · exact ⟨⟨h0, h.2.2.2.1⟩, h.2.2.2.2⟩
      · exact ih
theorem ldI_next {f g : Nat → Int} {j : Nat} : ldI f g (j + 1) = fmin (owT (f j) (g j) (f (j + 1)) (g (j + 1))) (rwB (f j) (g j) (f (j + 1)) (g (j + 1))) (ldI f g j) := rfl
/-- The result: in lowest terms. -/
def ldA (f g : Nat → Int) (n : Nat) (c : Int) : Int := tmA (ldS f g n).1 ((ldS f g n).2 * c * c)
def ldC (f g : Nat → Int) (n : Nat) (c : Int) : Int := tmB (ldS f g n).1 ((ldS f g n).2 * c * c)
theorem ld_last {f g : Nat → Int} (hf : Steps f) (hg : Steps g) {n : Nat} {c : Int} (hn : 0 < n) (hc : 1 ≤ c) (hc2 : c ≤ 16) :
    ∃ T B : Int, tmA (ldI f g n).1 (ldI f g n).2 = T ∧ tmB (ldI f g n).1 (ldI f g n).2 = B ∧ 0 ≤ T ∧ T ≤ 10995116277760000 ∧ 1 ≤ B ∧ B ≤ 13107200 ∧ 1 ≤ B * c ∧ B * c ≤ 209715200 ∧ 1 ≤ B * c * c ∧ B * c * c ≤ 3355443200 ∧ tmA T (B * c * c) = ldA f g n c ∧ tmB T (B * c * c) = ldC f g n c ∧
      0 ≤ (ldS f g n).1 ∧ 1 ≤ (ldS f g n).2 * c ∧ (ldS f g n).2 * c ≤ 209715200 ∧ 1 ≤ (ldS f g n).2 * c * c ∧ (ldS f g n).2 * c * c ≤ 3355443200 := by
  obtain ⟨j, rfl⟩ : ∃ j, n = j + 1 := ⟨n - 1, by omega⟩
  obtain ⟨a1, a2⟩ := ldI_in hf hg (j + 1)
  obtain ⟨a3, a4⟩ := ldS_in hf hg (j + 1)
  have h := ld_terms f g j c hc _ _ rfl rfl _ _ rfl rfl
  have hs0 := (ld_ok f g j).s0
  have hb := tm_bounds (a := (ldI f g (j + 1)).1) (b := (ldI f g (j + 1)).2) a1.1 (by omega)
  have mul : ∀ {b : Int}, 1 ≤ b → b ≤ 13107200 → (1 ≤ b * c ∧ b * c ≤ 209715200) ∧ 1 ≤ b * c * c ∧ b * c * c ≤ 3355443200 := by
    intro b h1 h2
    have k1 : b * c ≤ 13107200 * 16 := Int.mul_le_mul h2 hc2 (by omega) (by omega)
    have k2 : 1 * 1 ≤ b * c := Int.mul_le_mul h1 hc (by omega) (by omega)
    have k3 : b * c * c ≤ 209715200 * 16 := Int.mul_le_mul (by omega) hc2 (by omega) (by omega)
    have k4 : 1 * 1 ≤ b * c * c := Int.mul_le_mul (by omega) hc (by omega) (by omega)
    omega
  obtain ⟨m1, m2⟩ := mul hb.2.2.1 (by omega)
  obtain ⟨m3, m4⟩ := mul a4.1 a4.2
  exact ⟨_, _, rfl, rfl, hb.1, by omega, hb.2.2.1, by omega, m1.1, m1.2, m2.1, m2.2, h.1, h.2, hs0, m3.1, m3.2, m4.1, m4.2⟩
end Go.Proofs.Ytpikhkdgohapeaa
