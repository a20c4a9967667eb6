/- Sets of numbers as bits of a whole number: plain laws. Condition: numbers below 2^20. -/
import Derived.Test.YtpikhkdgohapeaaMem
import Derived.Laws.BitsLemmas
namespace Go.Proofs.Ytpikhkdgohapeaa
open Go.RowKit

theorem wraps_i64 (n : Int) (h0 : 0 ≤ n) (h1 : n < 2 ^ 62) : IntKind.i64.wrap n = n := by rw [IntKind.wrap_i64]; omega
theorem bit_and (M b : Nat) (hM : M < 2 ^ 62) (hb : b < 2 ^ 62) : bits .and .i64 (M : Int) (b : Int) = ((M &&& b : Nat) : Int) :=
  (bits_nat .i64 62 (by decide) wraps_i64 M b hM hb).1
theorem bit_or (M b : Nat) (hM : M < 2 ^ 62) (hb : b < 2 ^ 62) : bits .or .i64 (M : Int) (b : Int) = ((M ||| b : Nat) : Int) :=
  (bits_nat .i64 62 (by decide) wraps_i64 M b hM hb).2
theorem fdiv_nat (M k : Nat) : (M : Int).fdiv (2 ^ k) = ((M >>> k : Nat) : Int) := by
  rw [Int.fdiv_eq_ediv_of_nonneg _ (by exact_mod_cast Nat.zero_le _), Nat.shiftRight_eq_div_pow]
  exact_mod_cast rfl
def bitI (M k : Nat) : Int := if M.testBit k then 1 else 0
/-- 'set>>k&1' -/
theorem bit_at (M k : Nat) (hM : M < 2 ^ 62) : bits .and .i64 ((M : Int).fdiv (2 ^ k)) 1 = bitI M k := by
  rw [fdiv_nat]
  have h := bit_and (M >>> k) 1 (Nat.lt_of_le_of_lt (by rw [Nat.shiftRight_eq_div_pow]; exact Nat.div_le_self _ _) hM) (by decide)
  rw [show ((1 : Nat) : Int) = 1 from rfl] at h
  rw [h]
  unfold bitI Nat.testBit
  rw [Nat.and_comm]
  have : 1 &&& M >>> k = 0 ∨ 1 &&& M >>> k = 1 := by rw [Nat.one_and_eq_mod_two]; omega
  rcases this with e | e <;> simp [e]
theorem bit_at' (M k : Nat) (hM : M < 2 ^ 62) (hk : k ≤ 64) : bits .and .i64 ((M : Int).fdiv (2 ^ (min k 64))) 1 = bitI M k := by
  rw [Nat.min_eq_left hk]; exact bit_at M k hM
theorem one_shl (k : Nat) (hk : k ≤ 20) : IntKind.i64.wrap (1 * 2 ^ (min k 64)) = ((2 ^ k : Nat) : Int) := by
  rw [Nat.min_eq_left (by omega), Int.one_mul, wraps_i64]
  · exact_mod_cast rfl
  · exact_mod_cast Nat.zero_le _
  · exact_mod_cast Nat.pow_lt_pow_right (by decide) (show k < 62 by omega)
/-- 'set | 1<<k' -/
theorem bit_set (M k : Nat) (hM : M < 2 ^ 20) (hk : k < 20) : bits .or .i64 (M : Int) ((2 ^ k : Nat) : Int) = ((M ||| 2 ^ k : Nat) : Int) ∧ M ||| 2 ^ k < 2 ^ 20 := by
  have h2 : 2 ^ k < 2 ^ 20 := Nat.pow_lt_pow_right (by decide) hk
  exact ⟨bit_or M _ (by omega) (by omega), Nat.or_lt_two_pow hM h2⟩
theorem bit_new (M k j : Nat) : (M ||| 2 ^ k).testBit j = (M.testBit j || decide (k = j)) := by
  rw [Nat.testBit_or, Nat.testBit_two_pow]
/-! ### In the walk's own form -/
theorem bit_at2 (M k : Nat) (hM : M < 2 ^ 62) : bits .and .i64 ((M : Int) / 2 ^ k) 1 = bitI M k := by
  rw [← bit_at M k hM, Int.fdiv_eq_ediv_of_nonneg _ (by exact_mod_cast Nat.zero_le _)]
theorem one_shl2 (k : Nat) (hk : k ≤ 20) : wrap64 (2 ^ k) = (2 : Int) ^ k := by
  have h : ((2 ^ k : Nat) : Int) < ((2 ^ 21 : Nat) : Int) := by exact_mod_cast Nat.pow_lt_pow_right (by decide) (show k < 21 by omega)
  have h0 : (0 : Int) ≤ ((2 ^ k : Nat) : Int) := Int.natCast_nonneg _
  have e : ((2 ^ k : Nat) : Int) = (2 : Int) ^ k := by exact_mod_cast rfl
  rw [e] at h h0
  unfold wrap64
  have : ((2 ^ 21 : Nat) : Int) = 2097152 := by decide
  omega
theorem bit_set2 (M k : Nat) (hM : M < 2 ^ 20) (hk : k < 20) : bits .or .i64 (M : Int) (2 ^ k) = ((M ||| 2 ^ k : Nat) : Int) := by
  have e : ((2 ^ k : Nat) : Int) = (2 : Int) ^ k := by exact_mod_cast rfl
  rw [← e]; exact (bit_set M k hM hk).1
end Go.Proofs.Ytpikhkdgohapeaa
