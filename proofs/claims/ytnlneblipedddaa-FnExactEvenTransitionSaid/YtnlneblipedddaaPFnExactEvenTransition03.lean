/- Sets of numbers as bits of a whole number: plain laws. Condition: numbers below 2^20. Tables over sets of columns: the least sums of matchings, and the matching that is read out of them: plain laws. Condition: costs between 0 and 2100000, at most twelve columns. The least greatest cost of a matching, as the program reckons it over sets of used columns and the reference by marks of 0 and 1: plain laws. Condition: costs between 0 and 2100000, at most twelve columns. A list that grows sorted, each number once: plain laws. The program's tables over sets of used columns are the reference's over the sets of those left: plain laws. Condition: costs between 0 and 2100000, at most twelve columns. -/
import Derived.Test.YtnlneblipedddaaPFnExactEvenTransition01
import Derived.Laws.BitsLemmas
namespace Go.Proofs.Ytnlneblipedddaa
open Go.RowKit

theorem wraps_i64 (n : Int) (h0 : 0 ≤ n) (h1 : n < 2 ^ 62) : IntKind.i64.wrap n = n := by rw [IntKind.wrap_i64]; omega
theorem bit_and (M b : Nat) (hM : M < 2 ^ 62) (hb : b < 2 ^ 62) : bits .and .i64 (M : Int) (b : Int) = ((M &&& b : Nat) : Int) :=
  (bits_nat .i64 62 (by decide) wraps_i64 M b hM hb).1
theorem bit_or (M b : Nat) (hM : M < 2 ^ 62) (hb : b < 2 ^ 62) : bits .or .i64 (M : Int) (b : Int) = ((M ||| b : Nat) : Int) :=
  (bits_nat .i64 62 (by decide) wraps_i64 M b hM hb).2
theorem fdiv_nat (M k : Nat) : (M : Int).fdiv (2 ^ k) = ((M >>> k : Nat) : Int) := by
  rw [Int.fdiv_eq_ediv_of_nonneg _ (by exact_mod_cast Nat.zero_le _), Nat.shiftRight_eq_div_pow]
  exact_mod_cast rfl
def bitI (M k : Nat) : Int := if M.testBit k then 1 else 0
/-- 'set>>k&1' -/
theorem bit_at (M k : Nat) (hM : M < 2 ^ 62) : bits .and .i64 ((M : Int).fdiv (2 ^ k)) 1 = bitI M k := by
  rw [fdiv_nat]
  have h := bit_and (M >>> k) 1 (Nat.lt_of_le_of_lt (by rw [Nat.shiftRight_eq_div_pow]; exact Nat.div_le_self _ _) hM) (by decide)
  rw [show ((1 : Nat) : Int) = 1 from rfl] at h
  rw [h]
  unfold bitI Nat.testBit
  rw [Nat.and_comm]
  have : 1 &&& M >>> k = 0 ∨ 1 &&& M >>> k = 1 := by rw [Nat.one_and_eq_mod_two]; omega
  rcases this with e | e <;> simp [e]
theorem bit_at' (M k : Nat) (hM : M < 2 ^ 62) (hk : k ≤ 64) : bits .and .i64 ((M : Int).fdiv (2 ^ (min k 64))) 1 = bitI M k := by
  rw [Nat.min_eq_left hk]; exact bit_at M k hM
theorem one_shl (k : Nat) (hk : k ≤ 20) : IntKind.i64.wrap (1 * 2 ^ (min k 64)) = ((2 ^ k : Nat) : Int) := by
  rw [Nat.min_eq_left (by omega), Int.one_mul, wraps_i64]
  · exact_mod_cast rfl
  · exact_mod_cast Nat.zero_le _
  · exact_mod_cast Nat.pow_lt_pow_right (by decide) (show k < 62 by omega)
/-- 'set | 1<<k' -/
theorem bit_set (M k : Nat) (hM : M < 2 ^ 20) (hk : k < 20) : bits .or .i64 (M : Int) ((2 ^ k : Nat) : Int) = ((M ||| 2 ^ k : Nat) : Int) ∧ M ||| 2 ^ k < 2 ^ 20 := by
  have h2 : 2 ^ k < 2 ^ 20 := Nat.pow_lt_pow_right (by decide) hk
  exact ⟨bit_or M _ (by omega) (by omega), Nat.or_lt_two_pow hM h2⟩
theorem bit_new (M k j : Nat) : (M ||| 2 ^ k).testBit j = (M.testBit j || decide (k = j)) := by
  rw [Nat.testBit_or, Nat.testBit_two_pow]
/-! ### In the walk's own form -/
theorem bit_at2 (M k : Nat) (hM : M < 2 ^ 62) : bits .and .i64 ((M : Int) / 2 ^ k) 1 = bitI M k := by
  rw [← bit_at M k hM, Int.fdiv_eq_ediv_of_nonneg _ (by exact_mod_cast Nat.zero_le _)]
theorem one_shl2 (k : Nat) (hk : k ≤ 20) : wrap64 (2 ^ k) = (2 : Int) ^ k := by
  have h : ((2 ^ k : Nat) : Int) < ((2 ^ 21 : Nat) : Int) := by exact_mod_cast Nat.pow_lt_pow_right (by decide) (show k < 21 by omega)
  have h0 : (0 : Int) ≤ ((2 ^ k : Nat) : Int) := Int.natCast_nonneg _
  have e : ((2 ^ k : Nat) : Int) = (2 : Int) ^ k := by exact_mod_cast rfl
  rw [e] at h h0
  unfold wrap64
  have : ((2 ^ 21 : Nat) : Int) = 2097152 := by decide
  omega
theorem bit_set2 (M k : Nat) (hM : M < 2 ^ 20) (hk : k < 20) : bits .or .i64 (M : Int) (2 ^ k) = ((M ||| 2 ^ k : Nat) : Int) := by
  have e : ((2 ^ k : Nat) : Int) = (2 : Int) ^ k := by exact_mod_cast rfl
  rw [← e]; exact (bit_set M k hM hk).1
end Go.Proofs.Ytnlneblipedddaa

namespace Go.Proofs.Ytnlneblipedddaa

theorem bit_xor (M b : Nat) (hM : M < 2 ^ 62) (hb : b < 2 ^ 62) : bits .xor .i64 (M : Int) (b : Int) = ((M ^^^ b : Nat) : Int) := by
  have ha' : M % 2 ^ IntKind.i64.bits = M := Nat.mod_eq_of_lt (Nat.lt_of_lt_of_le hM (by decide))
  have hb' : b % 2 ^ IntKind.i64.bits = b := Nat.mod_eq_of_lt (Nat.lt_of_lt_of_le hb (by decide))
  simp only [bits, BitVec.ofInt_natCast, BitVec.toNat_xor, BitVec.toNat_ofNat, ha', hb']
  exact wraps_i64 _ (Int.natCast_nonneg _) (by exact_mod_cast Nat.xor_lt_two_pow hM hb)
/-- 'set ^ 1<<k' -/
theorem bit_flip (M k : Nat) (hM : M < 2 ^ 20) (hk : k < 20) : bits .xor .i64 (M : Int) (2 ^ k) = ((M ^^^ 2 ^ k : Nat) : Int) := by
  have e : ((2 ^ k : Nat) : Int) = (2 : Int) ^ k := by exact_mod_cast rfl
  have h2 : 2 ^ k < 2 ^ 20 := Nat.pow_lt_pow_right (by decide) hk
  rw [← e]; exact bit_xor M _ (by omega) (by omega)
/-- How many of the first n numbers are in s. -/
def popc (s : Nat) : Nat → Nat
  | 0 => 0
  | k + 1 => popc s k + (if s.testBit k then 1 else 0)
/-- The least over the first k columns in s of a row's cost and what the rest takes, and of D. -/
def tbK (D : Int) (C : Nat → Nat → Int) (T : Nat → Int) (r s : Nat) : Nat → Int
  | 0 => D
  | k + 1 => if s.testBit k then min (tbK D C T r s k) (C r k + T (s ^^^ 2 ^ k)) else tbK D C T r s k
theorem xor_bit (s k j : Nat) : (s ^^^ 2 ^ k).testBit j = (s.testBit j ^^ decide (k = j)) := by
  rw [Nat.testBit_xor, Nat.testBit_two_pow]
theorem xor_lt {s k : Nat} (h : s.testBit k = true) : s ^^^ 2 ^ k < s := by
  have hk : (s ^^^ 2 ^ k).testBit k = false := by rw [xor_bit, h]; simp
  refine Nat.lt_of_le_of_ne (Nat.le_of_testBit fun j hj => ?_) fun e => ?_
  · rw [xor_bit] at hj
    by_cases e : k = j
    · subst e; exact h
    · simpa [e] using hj
  · rw [e, h] at hk; cases hk
theorem tbK_congr {D : Int} {C : Nat → Nat → Int} {T U : Nat → Int} {r s : Nat} (h : ∀ j, j < s → T j = U j) : ∀ k, tbK D C T r s k = tbK D C U r s k
  | 0 => rfl
  | k + 1 => by
    rw [tbK, tbK, tbK_congr h k]
    split
    · rename_i hb
      rw [h _ (xor_lt hb)]
    · rfl
/-- The least sum of a matching of the last rows with the columns in s. -/
def tb (C : Nat → Nat → Int) (n : Nat) (s : Nat) : Int :=
  if s = 0 then 0 else tbK 1000000000 C (fun j => if j < s then tb C n j else 0) (n - popc s n) s n
termination_by s
decreasing_by assumption
theorem tb_zero (C : Nat → Nat → Int) (n : Nat) : tb C n 0 = 0 := by rw [tb]; rfl
theorem tb_pos (C : Nat → Nat → Int) (n : Nat) {s : Nat} (h : s ≠ 0) : tb C n s = tbK 1000000000 C (tb C n) (n - popc s n) s n := by
  rw [tb, if_neg h]
  exact tbK_congr (fun j hj => if_pos hj) n
theorem popc_le (s : Nat) : ∀ n, popc s n ≤ n
  | 0 => Nat.le_refl _
  | n + 1 => by
    have := popc_le s n
    rw [popc]
    split <;> omega
theorem popc_pos {s j : Nat} (h : s.testBit j = true) : ∀ {n}, j < n → 0 < popc s n
  | n + 1, hj => by
    rw [popc]
    by_cases e : j = n
    · subst e; rw [if_pos h]; omega
    · have := popc_pos h (n := n) (by omega)
      omega
theorem popc_out {s j : Nat} (h : s.testBit j = true) : ∀ {n}, n ≤ j → popc (s ^^^ 2 ^ j) n = popc s n
  | 0, _ => rfl
  | n + 1, hj => by
    rw [popc, popc, popc_out h (n := n) (by omega), xor_bit]
    simp [show j ≠ n by omega]
theorem popc_xor {s j : Nat} (h : s.testBit j = true) : ∀ {n}, j < n → popc (s ^^^ 2 ^ j) n + 1 = popc s n
  | n + 1, hj => by
    rw [popc, popc, xor_bit]
    by_cases e : j = n
    · subst e
      rw [popc_out h (Nat.le_refl _)]
      simp [h]
    · have := popc_xor h (n := n) (by omega)
      simp only [show j ≠ n from e, decide_false, Bool.xor_false]
      omega
theorem full_bit (n k : Nat) : (2 ^ n - 1).testBit k = decide (k < n) := Nat.testBit_two_pow_sub_one n k
theorem popc_full {m : Nat} : ∀ {n : Nat}, n ≤ m → popc (2 ^ m - 1) n = n
  | 0, _ => rfl
  | n + 1, h => by
    rw [popc, popc_full (by omega), full_bit]
    simp [show n < m by omega]
theorem bit_some {s n : Nat} (h : s ≠ 0) (hs : s < 2 ^ n) : ∃ j, j < n ∧ s.testBit j = true := by
  obtain ⟨j, hj⟩ := Nat.exists_testBit_of_ne_zero h
  refine ⟨j, ?_, hj⟩
  apply Classical.byContradiction
  intro hn
  have : s < 2 ^ j := Nat.lt_of_lt_of_le hs (Nat.pow_le_pow_right (by decide) (by omega))
  rw [Nat.testBit_lt_two_pow this] at hj
  cases hj

/-- The costs are between 0 and 2100000. -/
def CostOk (C : Nat → Nat → Int) : Prop := ∀ i k, 0 ≤ C i k ∧ C i k ≤ 2100000
section
variable {D E : Int} {C : Nat → Nat → Int} {T : Nat → Int} {r s n : Nat}
theorem tbK_le : ∀ k, tbK D C T r s k ≤ D
  | 0 => Int.le_refl _
  | k + 1 => by
    have := tbK_le k
    rw [tbK]
    split <;> omega
theorem tbK_nonneg (hD : 0 ≤ D) (hC : ∀ k, 0 ≤ C r k) (hT : ∀ j, j < s → 0 ≤ T j) : ∀ k, 0 ≤ tbK D C T r s k
  | 0 => hD
  | k + 1 => by
    have := tbK_nonneg hD hC hT k
    rw [tbK]
    split
    · rename_i hb
      have := hT _ (xor_lt hb)
      have := hC k
      omega
    · exact this
theorem tbK_min {j : Nat} (hb : s.testBit j = true) : ∀ {k}, j < k → tbK D C T r s k ≤ C r j + T (s ^^^ 2 ^ j)
  | k + 1, hj => by
    rw [tbK]
    by_cases e : j = k
    · subst e; rw [if_pos hb]; omega
    · have := tbK_min hb (k := k) (by omega)
      split <;> omega
theorem tbK_att : ∀ k, tbK D C T r s k = D ∨ ∃ j, j < k ∧ s.testBit j = true ∧ tbK D C T r s k = C r j + T (s ^^^ 2 ^ j)
  | 0 => .inl rfl
  | k + 1 => by
    rw [tbK]
    split
    · rename_i hb
      rcases Int.le_total (tbK D C T r s k) (C r k + T (s ^^^ 2 ^ k)) with h | h
      · rw [Int.min_eq_left h]
        rcases tbK_att k with h2 | ⟨j, h1, h2, h3⟩
        · exact .inl h2
        · exact .inr ⟨j, by omega, h2, h3⟩
      · rw [Int.min_eq_right h]
        exact .inr ⟨k, by omega, hb, rfl⟩
    · rcases tbK_att k with h2 | ⟨j, h1, h2, h3⟩
      · exact .inl h2
      · exact .inr ⟨j, by omega, h2, h3⟩
theorem tbK_same {k j : Nat} (hj : j < k) (hb : s.testBit j = true) (h1 : C r j + T (s ^^^ 2 ^ j) < D) (h2 : C r j + T (s ^^^ 2 ^ j) < E) : tbK D C T r s k = tbK E C T r s k := by
  have a := tbK_min (D := D) (C := C) (T := T) (r := r) hb hj
  have b := tbK_min (D := E) (C := C) (T := T) (r := r) hb hj
  rcases tbK_att (D := D) (C := C) (T := T) (r := r) (s := s) k with h | ⟨x, x1, x2, x3⟩
  · omega
  rcases tbK_att (D := E) (C := C) (T := T) (r := r) (s := s) k with h | ⟨y, y1, y2, y3⟩
  · omega
  have c := tbK_min (D := E) (C := C) (T := T) (r := r) x2 x1
  have d := tbK_min (D := D) (C := C) (T := T) (r := r) y2 y1
  omega
theorem tb_bound (hC : CostOk C) (n : Nat) : ∀ s, 0 ≤ tb C n s ∧ tb C n s ≤ 1000000000 := by
  intro s
  induction s using Nat.strongRecOn with
  | ind s ih =>
    by_cases h : s = 0
    · subst h; rw [tb_zero]; omega
    · rw [tb_pos C n h]
      exact ⟨tbK_nonneg (by omega) (fun k => (hC _ k).1) (fun j hj => (ih j hj).1) n, tbK_le n⟩
theorem tb_small (hC : CostOk C) (n : Nat) : ∀ s, s < 2 ^ n → tb C n s ≤ 2100000 * (popc s n : Nat) := by
  intro s
  induction s using Nat.strongRecOn with
  | ind s ih =>
    intro hs
    by_cases h : s = 0
    · subst h; rw [tb_zero]; omega
    · obtain ⟨j, hj, hb⟩ := bit_some h hs
      have h1 := ih _ (xor_lt hb) (Nat.lt_trans (xor_lt hb) hs)
      have h2 := popc_xor hb hj
      rw [tb_pos C n h]
      have h3 := tbK_min (D := 1000000000) (C := C) (T := tb C n) (r := n - popc s n) hb hj
      have h4 := (hC (n - popc s n) j).2
      omega
/-- A column of the set takes what the table says. -/
theorem tb_att (hC : CostOk C) (hn : n ≤ 12) (h : s ≠ 0) (hs : s < 2 ^ n) : ∃ j, j < n ∧ s.testBit j = true ∧ C (n - popc s n) j + tb C n (s ^^^ 2 ^ j) = tb C n s := by
  have h0 := tb_small hC n s hs
  have h1 := popc_le s n
  rw [tb_pos C n h] at h0 ⊢
  rcases tbK_att (D := 1000000000) (C := C) (T := tb C n) (r := n - popc s n) (s := s) n with h2 | ⟨j, h2, h3, h4⟩
  · omega
  · exact ⟨j, h2, h3, h4.symm⟩
theorem tb_min {j : Nat} (h : s.testBit j = true) (hj : j < n) : tb C n s ≤ C (n - popc s n) j + tb C n (s ^^^ 2 ^ j) := by
  have : s ≠ 0 := by rintro rfl; simp at h
  rw [tb_pos C n this]
  exact tbK_min h hj
end

/-- The first column that the condition holds of, among k; -1 without one. -/
def fst (P : Nat → Bool) : Nat → Int
  | 0 => -1
  | k + 1 => if fst P k < 0 && P k then (k : Int) else fst P k
section
variable {P Q : Nat → Bool}
theorem fst_lt : ∀ k, -1 ≤ fst P k ∧ fst P k < k
  | 0 => by simp [fst]
  | k + 1 => by
    have := fst_lt k
    rw [fst]
    split <;> omega
theorem fst_none : ∀ {k}, (∀ j, j < k → P j = false) → fst P k = -1
  | 0, _ => rfl
  | k + 1, h => by
    rw [fst, fst_none (fun j hj => h j (by omega)), h k (by omega)]
    rfl
theorem fst_found {j : Nat} (h : P j = true) : ∀ {k}, j < k → 0 ≤ fst P k ∧ fst P k ≤ j
  | k + 1, hj => by
    rw [fst]
    by_cases e : j = k
    · subst e
      have := fst_lt (P := P) j
      by_cases h2 : fst P j < 0
      · simp [h2, h]
      · simp [h2]; omega
    · have := fst_found h (k := k) (by omega)
      rw [if_neg (by simp; omega)]
      exact this
theorem fst_is : ∀ {k}, 0 ≤ fst P k → P (fst P k).toNat = true
  | 0, h => by simp [fst] at h
  | k + 1, h => by
    rw [fst] at h ⊢
    by_cases e : fst P k < 0 && P k
    · rw [if_pos e]; simp at e; simpa using e.2
    · rw [if_neg e] at h ⊢; exact fst_is h
theorem fst_congr : ∀ {k}, (∀ j, j < k → P j = Q j) → fst P k = fst Q k
  | 0, _ => rfl
  | k + 1, h => by rw [fst, fst, fst_congr (fun j hj => h j (by omega)), h k (by omega)]
/-- Once found, it stays. -/
theorem fst_stop {j : Nat} (h0 : ∀ i, i < j → P i = false) (h : P j = true) : ∀ {k}, j < k → fst P k = j
  | k + 1, hj => by
    rw [fst]
    by_cases e : j = k
    · subst e; rw [fst_none h0, h]; rfl
    · rw [fst_stop h0 h (k := k) (by omega), if_neg (by simp; omega)]
end

/-- Does column k of the set take what the table says? -/
def mlP (C : Nat → Nat → Int) (T : Nat → Int) (r s k : Nat) : Bool := s.testBit k && C r k + T (s ^^^ 2 ^ k) == T s
/-- The columns left after i rows. -/
def mlS (C : Nat → Nat → Int) (T : Nat → Int) (n : Nat) : Nat → Nat
  | 0 => 2 ^ n - 1
  | i + 1 => mlS C T n i ^^^ 2 ^ (fst (mlP C T i (mlS C T n i)) n).toNat
/-- The columns of the first i rows. -/
def mlL (C : Nat → Nat → Int) (T : Nat → Int) (n : Nat) : Nat → List Int
  | 0 => []
  | i + 1 => mlL C T n i ++ [fst (mlP C T i (mlS C T n i)) n]
theorem mlL_length (C : Nat → Nat → Int) (T : Nat → Int) (n : Nat) : ∀ i, (mlL C T n i).length = i
  | 0 => rfl
  | i + 1 => by simp [mlL, mlL_length C T n i]
/-- What holds of the columns left, and of the column taken. -/
theorem mlS_ok {C : Nat → Nat → Int} {n : Nat} (hC : CostOk C) (hn : n ≤ 12) : ∀ i, i ≤ n → mlS C (tb C n) n i < 2 ^ n ∧ popc (mlS C (tb C n) n i) n = n - i ∧
    (i < n → 0 ≤ fst (mlP C (tb C n) i (mlS C (tb C n) n i)) n ∧ fst (mlP C (tb C n) i (mlS C (tb C n) n i)) n < n ∧ mlP C (tb C n) i (mlS C (tb C n) n i) (fst (mlP C (tb C n) i (mlS C (tb C n) n i)) n).toNat = true) := by
  have last : ∀ i s, i < n → s < 2 ^ n → popc s n = n - i → 0 ≤ fst (mlP C (tb C n) i s) n ∧ fst (mlP C (tb C n) i s) n < n ∧ mlP C (tb C n) i s (fst (mlP C (tb C n) i s) n).toNat = true := by
    intro i s hi hs hp
    have h0 : s ≠ 0 := by
      rintro rfl
      have : ∀ m, popc 0 m = 0 := by
        intro m
        induction m with
        | zero => rfl
        | succ m ih => rw [popc, ih]; simp
      rw [this] at hp
      omega
    obtain ⟨j, h1, h2, h3⟩ := tb_att hC hn h0 hs
    rw [hp, show n - (n - i) = i by omega] at h3
    have h4 := fst_found (P := mlP C (tb C n) i s) (j := j) (by simp [mlP, h2, h3]) h1
    exact ⟨h4.1, (fst_lt n).2, fst_is h4.1⟩
  intro i
  induction i with
  | zero =>
    intro _
    have h1 : mlS C (tb C n) n 0 < 2 ^ n := by
      have := Nat.two_pow_pos n
      show 2 ^ n - 1 < 2 ^ n
      omega
    have h2 : popc (mlS C (tb C n) n 0) n = n - 0 := popc_full (Nat.le_refl _)
    exact ⟨h1, h2, fun hi => last 0 _ hi h1 h2⟩
  | succ i ih =>
    intro hi
    obtain ⟨h1, h2, h3⟩ := ih (by omega)
    obtain ⟨a, b, c⟩ := h3 (by omega)
    obtain ⟨j, hj⟩ : ∃ j : Nat, (fst (mlP C (tb C n) i (mlS C (tb C n) n i)) n).toNat = j := ⟨_, rfl⟩
    have e : mlS C (tb C n) n (i + 1) = mlS C (tb C n) n i ^^^ 2 ^ j := by rw [mlS, hj]
    rw [hj] at c
    have hb : (mlS C (tb C n) n i).testBit j = true := by
      simp only [mlP, Bool.and_eq_true] at c
      exact c.1
    have h5 : mlS C (tb C n) n (i + 1) < 2 ^ n := by rw [e]; exact Nat.lt_trans (xor_lt hb) h1
    have h6 : popc (mlS C (tb C n) n (i + 1)) n = n - (i + 1) := by
      have := popc_xor hb (n := n) (by omega)
      rw [e]
      omega
    exact ⟨h5, h6, fun hi2 => last (i + 1) _ hi2 h5 h6⟩

/-- The table as a list of 2^n numbers, of which those below m have been reckoned. -/
def tbL (C : Nat → Nat → Int) (n m : Nat) : List Int := (List.range (2 ^ n)).map fun i => if i < m then tb C n i else 0
theorem tbL_length (C : Nat → Nat → Int) (n m : Nat) : (tbL C n m).length = 2 ^ n := by simp [tbL]
theorem tbL_get {C : Nat → Nat → Int} {n m j : Nat} (hj : j < m) (h : j < 2 ^ n) : (tbL C n m).getD j 0 = tb C n j := by
  simp [tbL, List.getD_eq_getElem?_getD, h, hj]
theorem tbL_one (C : Nat → Nat → Int) (n : Nat) : tbL C n 1 = List.replicate (2 ^ n) 0 := by
  refine List.ext_getElem (by simp [tbL]) fun i h1 h2 => ?_
  simp only [tbL, List.getElem_map, List.getElem_range, List.getElem_replicate]
  split
  · rw [show i = 0 by omega, tb_zero]
  · rfl
theorem tbL_set {C : Nat → Nat → Int} {n m : Nat} (h : m < 2 ^ n) : (tbL C n m).set m (tb C n m) = tbL C n (m + 1) := by
  refine List.ext_getElem (by simp [tbL]) fun i h1 h2 => ?_
  simp only [tbL, List.getElem_set, List.getElem_map, List.getElem_range]
  by_cases e : m = i
  · subst e; simp
  · rw [if_neg e]
    by_cases e2 : i < m
    · rw [if_pos e2, if_pos (by omega)]
    · rw [if_neg e2, if_neg (by omega)]
end Go.Proofs.Ytnlneblipedddaa

namespace Go.Proofs.Ytnlneblipedddaa

/-- The least over the first k columns in s of the greater of a row's cost and what the rest takes. -/
def mxK (D : Int) (C : Nat → Nat → Int) (T : Nat → Int) (r s : Nat) : Nat → Int
  | 0 => D
  | k + 1 => if s.testBit k then min (mxK D C T r s k) (max (C r k) (T (s ^^^ 2 ^ k))) else mxK D C T r s k
theorem mxK_congr {D : Int} {C : Nat → Nat → Int} {T U : Nat → Int} {r s : Nat} (h : ∀ j, j < s → T j = U j) : ∀ k, mxK D C T r s k = mxK D C U r s k
  | 0 => rfl
  | k + 1 => by
    rw [mxK, mxK, mxK_congr h k]
    split
    · rename_i hb
      rw [h _ (xor_lt hb)]
    · rfl
/-- The least greatest cost of a matching of the last rows with the columns in s. -/
def mx (C : Nat → Nat → Int) (n : Nat) (s : Nat) : Int :=
  if s = 0 then 0 else mxK 1099511627776 C (fun j => if j < s then mx C n j else 0) (n - popc s n) s n
termination_by s
decreasing_by assumption
theorem mx_zero (C : Nat → Nat → Int) (n : Nat) : mx C n 0 = 0 := by rw [mx]; rfl
theorem mx_pos (C : Nat → Nat → Int) (n : Nat) {s : Nat} (h : s ≠ 0) : mx C n s = mxK 1099511627776 C (mx C n) (n - popc s n) s n := by
  rw [mx, if_neg h]
  exact mxK_congr (fun j hj => if_pos hj) n
section
variable {D E : Int} {C : Nat → Nat → Int} {T : Nat → Int} {r s n : Nat}
theorem mxK_min {j : Nat} (hb : s.testBit j = true) : ∀ {k}, j < k → mxK D C T r s k ≤ max (C r j) (T (s ^^^ 2 ^ j))
  | k + 1, hj => by
    rw [mxK]
    by_cases e : j = k
    · subst e; rw [if_pos hb]; omega
    · have := mxK_min hb (k := k) (by omega)
      split <;> omega
theorem mxK_att : ∀ k, mxK D C T r s k = D ∨ ∃ j, j < k ∧ s.testBit j = true ∧ mxK D C T r s k = max (C r j) (T (s ^^^ 2 ^ j))
  | 0 => .inl rfl
  | k + 1 => by
    rw [mxK]
    split
    · rename_i hb
      rcases Int.le_total (mxK D C T r s k) (max (C r k) (T (s ^^^ 2 ^ k))) with h | h
      · rw [Int.min_eq_left h]
        rcases mxK_att k with h2 | ⟨j, h1, h2, h3⟩
        · exact .inl h2
        · exact .inr ⟨j, by omega, h2, h3⟩
      · rw [Int.min_eq_right h]
        exact .inr ⟨k, by omega, hb, rfl⟩
    · rcases mxK_att k with h2 | ⟨j, h1, h2, h3⟩
      · exact .inl h2
      · exact .inr ⟨j, by omega, h2, h3⟩
theorem mx_bound (hC : CostOk C) (n : Nat) : ∀ s, s < 2 ^ n → 0 ≤ mx C n s ∧ mx C n s ≤ 2100000 := by
  intro s
  induction s using Nat.strongRecOn with
  | ind s ih =>
    intro hs
    by_cases h : s = 0
    · subst h; rw [mx_zero]; omega
    · obtain ⟨j, hj, hb⟩ := bit_some h hs
      have h1 := ih _ (xor_lt hb) (Nat.lt_trans (xor_lt hb) hs)
      rw [mx_pos C n h]
      have h3 := mxK_min (D := 1099511627776) (C := C) (T := mx C n) (r := n - popc s n) hb hj
      have h4 := hC (n - popc s n) j
      refine ⟨?_, by omega⟩
      rcases mxK_att (D := 1099511627776) (C := C) (T := mx C n) (r := n - popc s n) (s := s) n with h5 | ⟨i, h5, h6, h7⟩
      · omega
      · have h8 := hC (n - popc s n) i
        omega
theorem mx_att (hC : CostOk C) (h : s ≠ 0) (hs : s < 2 ^ n) : ∃ j, j < n ∧ s.testBit j = true ∧ mx C n s = max (C (n - popc s n) j) (mx C n (s ^^^ 2 ^ j)) := by
  have h0 := (mx_bound hC n s hs).2
  rw [mx_pos C n h] at h0 ⊢
  rcases mxK_att (D := 1099511627776) (C := C) (T := mx C n) (r := n - popc s n) (s := s) n with h2 | ⟨j, h2, h3, h4⟩
  · omega
  · exact ⟨j, h2, h3, h4⟩
theorem mx_min {j : Nat} (h : s.testBit j = true) (hj : j < n) : mx C n s ≤ max (C (n - popc s n) j) (mx C n (s ^^^ 2 ^ j)) := by
  have : s ≠ 0 := by rintro rfl; simp at h
  rw [mx_pos C n this]
  exact mxK_min h hj
/-- The least greatest cost is one of the costs. -/
theorem mx_is (hC : CostOk C) : ∀ s, s ≠ 0 → s < 2 ^ n → ∃ i j, i < n ∧ j < n ∧ mx C n s = C i j := by
  intro s
  induction s using Nat.strongRecOn with
  | ind s ih =>
    intro h hs
    obtain ⟨j, hj, hb, he⟩ := mx_att hC h hs
    have hp := popc_pos hb hj
    have hl := popc_le s n
    rcases Int.le_total (C (n - popc s n) j) (mx C n (s ^^^ 2 ^ j)) with h1 | h1
    · by_cases h2 : s ^^^ 2 ^ j = 0
      · rw [h2, mx_zero] at h1 he
        have := (hC (n - popc s n) j).1
        exact ⟨n - popc s n, j, by omega, hj, by omega⟩
      · obtain ⟨a, b, ha, hb2, e⟩ := ih _ (xor_lt hb) h2 (Nat.lt_trans (xor_lt hb) hs)
        exact ⟨a, b, ha, hb2, by omega⟩
    · exact ⟨n - popc s n, j, by omega, hj, by omega⟩
end
/-- Marks: 0 where a cost is at most m, otherwise 1. -/
def mark (C : Nat → Nat → Int) (m : Int) (i k : Nat) : Int := if C i k ≤ m then 0 else 1
theorem mark_ok (C : Nat → Nat → Int) (m : Int) : CostOk (mark C m) := by
  intro i k
  unfold mark
  split <;> omega
/-- With marks, the least sum is 0 if and only if no cost above m is needed. -/
theorem tb_mark {C : Nat → Nat → Int} {n : Nat} (hC : CostOk C) (hn : n ≤ 12) {m : Int} (hm : 0 ≤ m) : ∀ s, s < 2 ^ n → (tb (mark C m) n s = 0 ↔ mx C n s ≤ m) := by
  intro s
  induction s using Nat.strongRecOn with
  | ind s ih =>
    intro hs
    by_cases h : s = 0
    · subst h; rw [tb_zero, mx_zero]; simp [hm]
    · constructor
      · intro h0
        obtain ⟨j, h1, h2, h3⟩ := tb_att (mark_ok C m) hn h hs
        have h4 := ih _ (xor_lt h2) (Nat.lt_trans (xor_lt h2) hs)
        have h5 := (tb_bound (mark_ok C m) n (s ^^^ 2 ^ j)).1
        have h6 := (mark_ok C m (n - popc s n) j).1
        have h7 := h4.1 (by omega)
        have h8 : mark C m (n - popc s n) j = 0 := by omega
        have h9 : C (n - popc s n) j ≤ m := by
          unfold mark at h8
          split at h8
          · assumption
          · omega
        have := mx_min (C := C) h2 h1
        omega
      · intro h0
        obtain ⟨j, h1, h2, h3⟩ := mx_att hC h hs
        have h4 := (ih _ (xor_lt h2) (Nat.lt_trans (xor_lt h2) hs)).2 (by omega)
        have h5 := tb_min (C := mark C m) h2 h1
        have h6 : mark C m (n - popc s n) j = 0 := by
          unfold mark
          rw [if_pos (by omega)]
        have := (tb_bound (mark_ok C m) n s).1
        omega
/-- Does column k of the set keep within m? -/
def mxP (C : Nat → Nat → Int) (T : Nat → Int) (m : Int) (r s k : Nat) : Bool := s.testBit k && decide (max (C r k) (T (s ^^^ 2 ^ k)) ≤ m)
/-- The columns left, and those taken, by the program's choice. -/
def mxS (C : Nat → Nat → Int) (T : Nat → Int) (m : Int) (n : Nat) : Nat → Nat
  | 0 => 2 ^ n - 1
  | i + 1 => mxS C T m n i ^^^ 2 ^ (fst (mxP C T m i (mxS C T m n i)) n).toNat
def mxL (C : Nat → Nat → Int) (T : Nat → Int) (m : Int) (n : Nat) : Nat → List Int
  | 0 => []
  | i + 1 => mxL C T m n i ++ [fst (mxP C T m i (mxS C T m n i)) n]
theorem mxL_length (C : Nat → Nat → Int) (T : Nat → Int) (m : Int) (n : Nat) : ∀ i, (mxL C T m n i).length = i
  | 0 => rfl
  | i + 1 => by simp [mxL, mxL_length C T m n i]
/-- The program's and the reference's choices are the same ones. -/
theorem mx_same {C : Nat → Nat → Int} {n : Nat} (hC : CostOk C) (hn : n ≤ 12) {m : Int} (hm : 0 ≤ m) (hf : mx C n (2 ^ n - 1) ≤ m) :
    ∀ i, i ≤ n → mxS C (mx C n) m n i = mlS (mark C m) (tb (mark C m) n) n i ∧ mxL C (mx C n) m n i = mlL (mark C m) (tb (mark C m) n) n i ∧ tb (mark C m) n (mlS (mark C m) (tb (mark C m) n) n i) = 0 := by
  intro i
  induction i with
  | zero =>
    intro _
    refine ⟨rfl, rfl, ?_⟩
    have := Nat.two_pow_pos n
    exact (tb_mark hC hn hm _ (by show 2 ^ n - 1 < 2 ^ n; omega)).2 hf
  | succ i ih =>
    intro hi
    obtain ⟨h1, h2, h3⟩ := ih (by omega)
    obtain ⟨a1, a2, a3⟩ := mlS_ok (mark_ok C m) hn i (by omega)
    obtain ⟨b1, b2, b3⟩ := a3 (by omega)
    have hP : ∀ k, k < n → mxP C (mx C n) m i (mlS (mark C m) (tb (mark C m) n) n i) k = mlP (mark C m) (tb (mark C m) n) i (mlS (mark C m) (tb (mark C m) n) n i) k := by
      intro k hk
      unfold mxP mlP
      cases hb : (mlS (mark C m) (tb (mark C m) n) n i).testBit k with
      | false => rfl
      | true =>
        simp only [Bool.true_and]
        have hlt := xor_lt hb
        have h4 := tb_mark hC hn hm _ (Nat.lt_trans hlt a1)
        have h5 := (tb_bound (mark_ok C m) n ((mlS (mark C m) (tb (mark C m) n) n i) ^^^ 2 ^ k)).1
        have h6 := (mark_ok C m i k).1
        rw [h3]
        have h7 : mark C m i k = 0 ↔ C i k ≤ m := by
          unfold mark
          split <;> simp_all
        rw [Bool.eq_iff_iff]
        simp only [decide_eq_true_eq, beq_iff_eq]
        omega
    have hF := fst_congr hP
    have e1 : mxS C (mx C n) m n (i + 1) = mlS (mark C m) (tb (mark C m) n) n (i + 1) := by
      rw [mxS, mlS, h1, hF]
    refine ⟨e1, by rw [mxL, mlL, h1, h2, hF], ?_⟩
    obtain ⟨j, hj⟩ : ∃ j : Nat, (fst (mlP (mark C m) (tb (mark C m) n) i (mlS (mark C m) (tb (mark C m) n) n i)) n).toNat = j := ⟨_, rfl⟩
    rw [hj] at b3
    rw [mlS, hj]
    simp only [mlP, Bool.and_eq_true, beq_iff_eq] at b3
    have h5 := (tb_bound (mark_ok C m) n ((mlS (mark C m) (tb (mark C m) n) n i) ^^^ 2 ^ j)).1
    have h6 := (mark_ok C m i j).1
    omega
end Go.Proofs.Ytnlneblipedddaa

namespace Go.Proofs.Ytnlneblipedddaa

/-- Sorted, each once. -/
def Srt (L : List Int) : Prop := L.Pairwise (· < ·)
theorem srt_lt {L : List Int} (h : Srt L) {i j : Nat} (hij : i < j) (hj : j < L.length) : L.getD i 0 < L.getD j 0 := by
  have := List.pairwise_iff_getElem.1 h i j (by omega) hj hij
  rw [List.getD_eq_getElem?_getD, List.getD_eq_getElem?_getD, List.getElem?_eq_getElem hj, List.getElem?_eq_getElem (by omega)]
  exact this
theorem srt_le {L : List Int} (h : Srt L) {i j : Nat} (hi : i < L.length) (hj : j < L.length) : L.getD i 0 ≤ L.getD j 0 ↔ i ≤ j := by
  rcases Nat.lt_trichotomy i j with e | e | e
  · have := srt_lt h e hj; omega
  · subst e; simp
  · have := srt_lt h e hi; omega
theorem get_in {L : List Int} {j : Nat} (h : j < L.length) : L.getD j 0 ∈ L := by
  rw [List.getD_eq_getElem?_getD, List.getElem?_eq_getElem h]
  exact List.getElem_mem h
theorem in_get {L : List Int} {x : Int} (h : x ∈ L) : ∃ j, j < L.length ∧ L.getD j 0 = x := by
  obtain ⟨j, hj, e⟩ := List.getElem_of_mem h
  refine ⟨j, hj, ?_⟩
  rw [List.getD_eq_getElem?_getD, List.getElem?_eq_getElem hj]
  exact e
/-- The list with x put in before place k. -/
def putL (L : List Int) (x : Int) (k : Nat) : List Int := (L.take k ++ [x]) ++ L.drop k
theorem putL_length {L : List Int} {x : Int} {k : Nat} (h : k ≤ L.length) : (putL L x k).length = L.length + 1 := by
  simp [putL]; omega
theorem putL_mem {L : List Int} {x y : Int} {k : Nat} : y ∈ putL L x k ↔ y = x ∨ y ∈ L := by
  have := List.take_append_drop k L
  constructor
  · intro h
    simp only [putL, List.mem_append, List.mem_singleton] at h
    rcases h with (h | h) | h
    · exact .inr (List.mem_of_mem_take h)
    · exact .inl h
    · exact .inr (List.mem_of_mem_drop h)
  · rintro (h | h)
    · simp [putL, h]
    · rw [← this] at h
      simp only [putL, List.mem_append, List.mem_singleton] at h ⊢
      rcases h with h | h
      · exact .inl (.inl h)
      · exact .inr h
theorem putL_srt {L : List Int} {x : Int} {k : Nat} (hs : Srt L) (h1 : ∀ j, j < k → L.getD j 0 < x) (h2 : k < L.length → x < L.getD k 0) (hk : k ≤ L.length) : Srt (putL L x k) := by
  have hd : ∀ y, y ∈ L.drop k → x < y := by
    intro y hy
    obtain ⟨j, hj, rfl⟩ := in_get hy
    rw [List.length_drop] at hj
    have e : (L.drop k).getD j 0 = L.getD (k + j) 0 := by simp [List.getD_eq_getElem?_getD, List.getElem?_drop]
    rw [e]
    have := h2 (by omega)
    have := (srt_le hs (i := k) (j := k + j) (by omega) (by omega)).2 (by omega)
    omega
  have ht : ∀ y, y ∈ L.take k → y < x := by
    intro y hy
    obtain ⟨j, hj, rfl⟩ := in_get hy
    rw [List.length_take] at hj
    have e : (L.take k).getD j 0 = L.getD j 0 := by simp [List.getD_eq_getElem?_getD, show j < k by omega]
    rw [e]
    exact h1 j (by omega)
  unfold Srt putL
  refine List.pairwise_append.2 ⟨List.pairwise_append.2 ⟨hs.sublist (List.take_sublist k L), List.pairwise_singleton _ _, ?_⟩, hs.sublist (List.drop_sublist k L), ?_⟩
  · intro a ha b hb
    obtain rfl := List.mem_singleton.1 hb
    exact ht a ha
  · intro a ha b hb
    rcases List.mem_append.1 ha with h | h
    · have := ht a h
      have := hd b hb
      omega
    · obtain rfl := List.mem_singleton.1 h
      exact hd b hb
theorem put_same {L : List Int} {x y : Int} {k : Nat} (hk : k < L.length) (h : L.getD k 0 = x) : y ∈ L ↔ y = x ∨ y ∈ L := by
  constructor
  · exact .inr
  · rintro (rfl | h2)
    · rw [← h]; exact get_in hk
    · exact h2
theorem half_mid {lo hi : Nat} (h : lo < hi) : lo ≤ (lo + hi) / 2 ∧ (lo + hi) / 2 < hi := by omega
/-- What has been put so far: all costs of the rows before i, and of row i before k. -/
def Seen (C : Nat → Nat → Int) (n i k : Nat) (L : List Int) : Prop := Srt L ∧ ∀ y, y ∈ L ↔ ∃ a b, b < n ∧ (a < i ∨ a = i ∧ b < k) ∧ y = C a b
section
variable {C : Nat → Nat → Int} {n i k : Nat} {L R : List Int}
theorem Seen.nil (C : Nat → Nat → Int) (n : Nat) : Seen C n 0 0 [] := by
  refine ⟨List.Pairwise.nil, fun y => ?_⟩
  constructor
  · intro h; cases h
  · rintro ⟨a, b, _, h, _⟩; omega
theorem Seen.next (h : Seen C n i k L) (hk : k < n) (hs : Srt R) (hR : ∀ y, y ∈ R ↔ y = C i k ∨ y ∈ L) : Seen C n i (k + 1) R := by
  refine ⟨hs, fun y => ?_⟩
  rw [hR, h.2]
  constructor
  · rintro (rfl | ⟨a, b, h1, h2, h3⟩)
    · exact ⟨i, k, hk, .inr ⟨rfl, by omega⟩, rfl⟩
    · exact ⟨a, b, h1, by omega, h3⟩
  · rintro ⟨a, b, h1, h2, h3⟩
    by_cases e : a = i ∧ b = k
    · obtain ⟨rfl, rfl⟩ := e; exact .inl h3
    · exact .inr ⟨a, b, h1, by omega, h3⟩
theorem Seen.row (h : Seen C n i n L) : Seen C n (i + 1) 0 L := by
  refine ⟨h.1, fun y => ?_⟩
  rw [h.2]
  constructor
  · rintro ⟨a, b, h1, h2, h3⟩; exact ⟨a, b, h1, by omega, h3⟩
  · rintro ⟨a, b, h1, h2, h3⟩; exact ⟨a, b, h1, by omega, h3⟩
end
end Go.Proofs.Ytnlneblipedddaa

namespace Go.Proofs.Ytnlneblipedddaa

/-- The columns that are not used. -/
def oth (n u : Nat) : Nat := 2 ^ n - (u + 1)
theorem oth_bit {n u k : Nat} (hu : u < 2 ^ n) (hk : k < n) : (oth n u).testBit k = !u.testBit k := by
  unfold oth
  rw [Nat.testBit_two_pow_sub_succ hu]
  simp [hk]
theorem oth_lt {n u : Nat} : oth n u < 2 ^ n := by
  have := Nat.two_pow_pos n
  unfold oth; omega
theorem oth_oth {n u : Nat} (hu : u < 2 ^ n) : oth n (oth n u) = u := by unfold oth; omega
theorem or_lt {u n k : Nat} (hu : u < 2 ^ n) (hk : k < n) : u ||| 2 ^ k < 2 ^ n := Nat.or_lt_two_pow hu (Nat.pow_lt_pow_right (by decide) hk)
theorem or_gt {u k : Nat} (h : u.testBit k = false) : u < u ||| 2 ^ k := by
  have hk : (u ||| 2 ^ k).testBit k = true := by rw [Nat.testBit_or, Nat.testBit_two_pow]; simp
  refine Nat.lt_of_le_of_ne (Nat.le_of_testBit fun j hj => ?_) fun e => ?_
  · rw [Nat.testBit_or, hj]; rfl
  · rw [← e, h] at hk; cases hk
theorem oth_set {n u k : Nat} (hu : u < 2 ^ n) (hk : k < n) (h : u.testBit k = false) : oth n (u ||| 2 ^ k) = oth n u ^^^ 2 ^ k := by
  have h2 := or_lt hu hk
  refine Nat.eq_of_testBit_eq fun j => ?_
  rw [xor_bit]
  by_cases hj : j < n
  · rw [oth_bit h2 hj, oth_bit hu hj, Nat.testBit_or, Nat.testBit_two_pow]
    by_cases e : k = j
    · subst e; simp [h]
    · simp [e]
  · have a : (oth n (u ||| 2 ^ k)).testBit j = false := Nat.testBit_lt_two_pow (Nat.lt_of_lt_of_le oth_lt (Nat.pow_le_pow_right (by decide) (by omega)))
    have b : (oth n u).testBit j = false := Nat.testBit_lt_two_pow (Nat.lt_of_lt_of_le oth_lt (Nat.pow_le_pow_right (by decide) (by omega)))
    rw [a, b]
    simp [show k ≠ j by omega]
theorem popc_oth {n u : Nat} (hu : u < 2 ^ n) : ∀ m, m ≤ n → popc (oth n u) m + popc u m = m
  | 0, _ => rfl
  | m + 1, hm => by
    have := popc_oth hu m (by omega)
    rw [popc, popc, oth_bit hu (show m < n by omega)]
    cases u.testBit m <;> simp <;> omega
/-- The program's inner loops, by used columns. -/
def usK (D : Int) (C : Nat → Nat → Int) (U : Nat → Int) (r u : Nat) : Nat → Int
  | 0 => D
  | k + 1 => if u.testBit k then usK D C U r u k else min (usK D C U r u k) (C r k + U (u ||| 2 ^ k))
def umK (D : Int) (C : Nat → Nat → Int) (U : Nat → Int) (r u : Nat) : Nat → Int
  | 0 => D
  | k + 1 => if u.testBit k then umK D C U r u k else min (umK D C U r u k) (max (C r k) (U (u ||| 2 ^ k)))
theorem usK_eq {D : Int} {C : Nat → Nat → Int} {T : Nat → Int} {n r u : Nat} (hu : u < 2 ^ n) : ∀ k, k ≤ n → usK D C (fun x => T (oth n x)) r u k = tbK D C T r (oth n u) k
  | 0, _ => rfl
  | k + 1, hk => by
    rw [usK, tbK, usK_eq hu k (by omega), oth_bit hu (show k < n by omega)]
    cases hb : u.testBit k with
    | true => rfl
    | false => simp only [Bool.not_false, if_true]; rw [if_neg (by simp), oth_set hu (by omega) hb]
theorem umK_eq {D : Int} {C : Nat → Nat → Int} {T : Nat → Int} {n r u : Nat} (hu : u < 2 ^ n) : ∀ k, k ≤ n → umK D C (fun x => T (oth n x)) r u k = mxK D C T r (oth n u) k
  | 0, _ => rfl
  | k + 1, hk => by
    rw [umK, mxK, umK_eq hu k (by omega), oth_bit hu (show k < n by omega)]
    cases hb : u.testBit k with
    | true => rfl
    | false => simp only [Bool.not_false, if_true]; rw [if_neg (by simp), oth_set hu (by omega) hb]
/-- What the program writes for a set of used columns is the table's number. -/
theorem us_is {C : Nat → Nat → Int} {n u : Nat} (hC : CostOk C) (hn : n ≤ 12) (hu : u + 1 < 2 ^ n) : usK 13194139533312 C (fun x => tb C n (oth n x)) (popc u n) u n = tb C n (oth n u) := by
  have hp := popc_oth (show u < 2 ^ n by omega) n (Nat.le_refl _)
  have h0 : oth n u ≠ 0 := by unfold oth; omega
  rw [usK_eq (by omega) n (Nat.le_refl _), tb_pos C n h0, show n - popc (oth n u) n = popc u n by omega]
  obtain ⟨j, hj, hb⟩ := bit_some h0 oth_lt
  have h1 := tb_small hC n _ (Nat.lt_trans (xor_lt hb) oth_lt)
  have h2 := popc_le (oth n u ^^^ 2 ^ j) n
  have h3 := (hC (popc u n) j).2
  exact tbK_same hj hb (by omega) (by omega)
theorem um_is {C : Nat → Nat → Int} {n u : Nat} (hu : u + 1 < 2 ^ n) : umK 1099511627776 C (fun x => mx C n (oth n x)) (popc u n) u n = mx C n (oth n u) := by
  have hp := popc_oth (show u < 2 ^ n by omega) n (Nat.le_refl _)
  have h0 : oth n u ≠ 0 := by unfold oth; omega
  rw [umK_eq (by omega) n (Nat.le_refl _), mx_pos C n h0, show n - popc (oth n u) n = popc u n by omega]
/-- The program's table as a list: those from m on have been reckoned. -/
def usL (F : Nat → Int) (n m : Nat) : List Int := (List.range (2 ^ n)).map fun i => if m ≤ i then F (oth n i) else 0
theorem usL_length (F : Nat → Int) (n m : Nat) : (usL F n m).length = 2 ^ n := by simp [usL]
theorem usL_get {F : Nat → Int} {n m j : Nat} (hj : m ≤ j) (h : j < 2 ^ n) : (usL F n m).getD j 0 = F (oth n j) := by
  simp [usL, List.getD_eq_getElem?_getD, h, hj]
theorem usL_top {F : Nat → Int} (h0 : F 0 = 0) (n : Nat) : usL F n (2 ^ n - 1) = List.replicate (2 ^ n) 0 := by
  refine List.ext_getElem (by simp [usL]) fun i h1 h2 => ?_
  simp only [usL, List.getElem_map, List.getElem_range, List.getElem_replicate]
  simp at h2
  split
  · rw [show oth n i = 0 by unfold oth; omega, h0]
  · rfl
theorem usL_set {F : Nat → Int} {n m : Nat} (h : m < 2 ^ n) : (usL F n (m + 1)).set m (F (oth n m)) = usL F n m := by
  refine List.ext_getElem (by simp [usL]) fun i h1 h2 => ?_
  simp only [usL, List.getElem_set, List.getElem_map, List.getElem_range]
  by_cases e : m = i
  · subst e; simp
  · rw [if_neg e]
    by_cases e2 : m + 1 ≤ i
    · rw [if_pos e2, if_pos (by omega)]
    · rw [if_neg e2, if_neg (by omega)]
end Go.Proofs.Ytnlneblipedddaa
