/- A fraction in lowest terms, by the greatest common divisor: plain laws. Without conditions. -/
import Derived.Test.YtpikhkdgohapeaaMem
namespace Go.Proofs.Ytpikhkdgohapeaa
def gd (a b : Int) : Int := (Nat.gcd a.toNat b.toNat : Nat)
def tmA (a b : Int) : Int := a.tdiv (gd a b)
def tmB (a b : Int) : Int := b.tdiv (gd a b)
theorem gd_pos {a b : Int} (hb : 0 < b) : 0 < gd a b := by
  have : 0 < Nat.gcd a.toNat b.toNat := Nat.gcd_pos_of_pos_right _ (by omega)
  unfold gd; omega
theorem gd_step {x y : Int} (hx : 0 ≤ x) (hy : 0 < y) : gd y (x.tmod y) = gd x y := by
  obtain ⟨a, rfl⟩ := Int.eq_ofNat_of_zero_le hx
  obtain ⟨b, rfl⟩ := Int.eq_ofNat_of_zero_le (show 0 ≤ y by omega)
  unfold gd
  rw [Int.tmod_eq_emod_of_nonneg hx, show ((a : Int) % (b : Int)) = ((a % b : Nat) : Int) from rfl]
  simp only [Int.toNat_natCast]
  rw [Nat.gcd_comm a b, Nat.gcd_rec b a, Nat.gcd_comm b]
theorem gd_zero {x : Int} (hx : 0 ≤ x) : gd x 0 = x := by
  unfold gd
  simp; omega
theorem tm_nat (a b : Nat) : tmA a b = ((a / Nat.gcd a b : Nat) : Int) ∧ tmB a b = ((b / Nat.gcd a b : Nat) : Int) := by
  unfold tmA tmB gd
  simp only [Int.toNat_natCast]
  exact ⟨(Int.ofNat_tdiv _ _).symm, (Int.ofNat_tdiv _ _).symm⟩
theorem tm_bounds {a b : Int} (ha : 0 ≤ a) (hb : 0 < b) : 0 ≤ tmA a b ∧ tmA a b ≤ a ∧ 1 ≤ tmB a b ∧ tmB a b ≤ b := by
  obtain ⟨x, rfl⟩ := Int.eq_ofNat_of_zero_le ha
  obtain ⟨y, rfl⟩ := Int.eq_ofNat_of_zero_le (show 0 ≤ b by omega)
  have hg : 0 < Nat.gcd x y := Nat.gcd_pos_of_pos_right _ (by omega)
  have h1 : x / Nat.gcd x y ≤ x := Nat.div_le_self _ _
  have h2 : y / Nat.gcd x y ≤ y := Nat.div_le_self _ _
  have h3 : 0 < y / Nat.gcd x y := Nat.div_pos (Nat.le_of_dvd (by omega) (Nat.gcd_dvd_right _ _)) hg
  rw [(tm_nat x y).1, (tm_nat x y).2]
  refine ⟨Int.natCast_nonneg _, ?_, ?_, ?_⟩
  · exact_mod_cast h1
  · exact_mod_cast h3
  · exact_mod_cast h2
theorem nat_terms {a b c d : Nat} (hb : 0 < b) (hd : 0 < d) (h : a * d = c * b) : a / Nat.gcd a b = c / Nat.gcd c d ∧ b / Nat.gcd a b = d / Nat.gcd c d := by
  have g1 : 0 < Nat.gcd a b := Nat.gcd_pos_of_pos_right _ hb
  have g2 : 0 < Nat.gcd c d := Nat.gcd_pos_of_pos_right _ hd
  have c1 := Nat.coprime_div_gcd_div_gcd g1
  have c2 := Nat.coprime_div_gcd_div_gcd g2
  obtain ⟨a', ha⟩ : ∃ x, a / Nat.gcd a b = x := ⟨_, rfl⟩
  obtain ⟨b', hb'⟩ : ∃ x, b / Nat.gcd a b = x := ⟨_, rfl⟩
  obtain ⟨c', hc⟩ : ∃ x, c / Nat.gcd c d = x := ⟨_, rfl⟩
  obtain ⟨d', hd'⟩ : ∃ x, d / Nat.gcd c d = x := ⟨_, rfl⟩
  have e1 : a = a' * Nat.gcd a b := by rw [← ha]; exact (Nat.div_mul_cancel (Nat.gcd_dvd_left _ _)).symm
  have e2 : b = b' * Nat.gcd a b := by rw [← hb']; exact (Nat.div_mul_cancel (Nat.gcd_dvd_right _ _)).symm
  have e3 : c = c' * Nat.gcd c d := by rw [← hc]; exact (Nat.div_mul_cancel (Nat.gcd_dvd_left _ _)).symm
  have e4 : d = d' * Nat.gcd c d := by rw [← hd']; exact (Nat.div_mul_cancel (Nat.gcd_dvd_right _ _)).symm
  rw [ha, hb'] at c1
  rw [hc, hd'] at c2
  rw [ha, hb', hc, hd']
  have hm : a' * d' = c' * b' := by
    obtain ⟨g, hg⟩ : ∃ x, Nat.gcd a b = x := ⟨_, rfl⟩
    obtain ⟨k, hk⟩ : ∃ x, Nat.gcd c d = x := ⟨_, rfl⟩
    rw [hg] at e1 e2 g1
    rw [hk] at e3 e4 g2
    rw [e1, e2, e3, e4] at h
    have : (a' * d') * (g * k) = (c' * b') * (g * k) := by
      rw [show (a' * d') * (g * k) = a' * g * (d' * k) by simp only [Nat.mul_assoc, Nat.mul_left_comm], show (c' * b') * (g * k) = c' * k * (b' * g) by simp only [Nat.mul_assoc, Nat.mul_left_comm, Nat.mul_comm], h]
    exact Nat.eq_of_mul_eq_mul_right (Nat.mul_pos g1 g2) this
  have hb0 : 0 < b' := by rcases Nat.eq_zero_or_pos b' with h0 | h0; · rw [h0] at e2; omega
                          · exact h0
  have d1 : b' ∣ d' := by
    refine c1.symm.dvd_of_dvd_mul_left ?_
    rw [hm]; exact Nat.dvd_mul_left _ _
  have d2 : d' ∣ b' := by
    refine c2.symm.dvd_of_dvd_mul_left ?_
    rw [← hm]; exact Nat.dvd_mul_left _ _
  have e : b' = d' := Nat.dvd_antisymm d1 d2
  subst e
  exact ⟨Nat.eq_of_mul_eq_mul_right hb0 hm, rfl⟩
/-- Equal fractions have the same lowest terms. -/
theorem tm_eq {a b c d : Int} (ha : 0 ≤ a) (hb : 0 < b) (hc : 0 ≤ c) (hd : 0 < d) (h : a * d = c * b) : tmA a b = tmA c d ∧ tmB a b = tmB c d := by
  obtain ⟨x, rfl⟩ := Int.eq_ofNat_of_zero_le ha
  obtain ⟨y, rfl⟩ := Int.eq_ofNat_of_zero_le (show 0 ≤ b by omega)
  obtain ⟨z, rfl⟩ := Int.eq_ofNat_of_zero_le hc
  obtain ⟨u, rfl⟩ := Int.eq_ofNat_of_zero_le (show 0 ≤ d by omega)
  have := nat_terms (a := x) (b := y) (c := z) (d := u) (by omega) (by omega) (by exact_mod_cast h)
  rw [(tm_nat x y).1, (tm_nat x y).2, (tm_nat z u).1, (tm_nat z u).2, this.1, this.2]
  exact ⟨rfl, rfl⟩
/-- Lowest terms are the same fraction. -/
theorem tm_same {a b : Int} (ha : 0 ≤ a) (hb : 0 < b) : tmA a b * b = a * tmB a b := by
  obtain ⟨x, rfl⟩ := Int.eq_ofNat_of_zero_le ha
  obtain ⟨y, rfl⟩ := Int.eq_ofNat_of_zero_le (show 0 ≤ b by omega)
  rw [(tm_nat x y).1, (tm_nat x y).2]
  have e1 := Nat.div_mul_cancel (Nat.gcd_dvd_left x y)
  have e2 := Nat.div_mul_cancel (Nat.gcd_dvd_right x y)
  obtain ⟨g, hg⟩ : ∃ g, Nat.gcd x y = g := ⟨_, rfl⟩
  rw [hg] at e1 e2 ⊢
  have : x / g * y = x * (y / g) := by
    have : x / g * (y / g * g) = x / g * g * (y / g) := by rw [Nat.mul_comm (y / g), Nat.mul_assoc]
    rwa [e1, e2] at this
  exact_mod_cast this
end Go.Proofs.Ytpikhkdgohapeaa
