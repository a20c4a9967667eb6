/- Sets of numbers as bits of a whole number: plain laws. Condition: numbers below 2^20. Tables over sets of columns: the least sums of matchings, and the matching that is read out of them: plain laws. Condition: costs between 0 and 2100000, at most twelve columns. -/
import Derived.Test.YtjcepipgjpaclaaPFnSwaps01
import Derived.Laws.BitsLemmas
namespace Go.Proofs.Ytjcepipgjpaclaa
open Go.RowKit

theorem wraps_i64 (n : Int) (h0 : 0 ≤ n) (h1 : n < 2 ^ 62) : IntKind.i64.wrap n = n := by rw [IntKind.wrap_i64]; omega
theorem bit_and (M b : Nat) (hM : M < 2 ^ 62) (hb : b < 2 ^ 62) : bits .and .i64 (M : Int) (b : Int) = ((M &&& b : Nat) : Int) :=
  (bits_nat .i64 62 (by decide) wraps_i64 M b hM hb).1
theorem bit_or (M b : Nat) (hM : M < 2 ^ 62) (hb : b < 2 ^ 62) : bits .or .i64 (M : Int) (b : Int) = ((M ||| b : Nat) : Int) :=
  (bits_nat .i64 62 (by decide) wraps_i64 M b hM hb).2
theorem fdiv_nat (M k : Nat) : (M : Int).fdiv (2 ^ k) = ((M >>> k : Nat) : Int) := by
  rw [Int.fdiv_eq_ediv_of_nonneg _ (by exact_mod_cast Nat.zero_le _), Nat.shiftRight_eq_div_pow]
  exact_mod_cast rfl
def bitI (M k : Nat) : Int := if M.testBit k then 1 else 0
/-- 'set>>k&1' -/
theorem bit_at (M k : Nat) (hM : M < 2 ^ 62) : bits .and .i64 ((M : Int).fdiv (2 ^ k)) 1 = bitI M k := by
  rw [fdiv_nat]
  have h := bit_and (M >>> k) 1 (Nat.lt_of_le_of_lt (by rw [Nat.shiftRight_eq_div_pow]; exact Nat.div_le_self _ _) hM) (by decide)
  rw [show ((1 : Nat) : Int) = 1 from rfl] at h
  rw [h]
  unfold bitI Nat.testBit
  rw [Nat.and_comm]
  have : 1 &&& M >>> k = 0 ∨ 1 &&& M >>> k = 1 := by rw [Nat.one_and_eq_mod_two]; omega
  rcases this with e | e <;> simp [e]
theorem bit_at' (M k : Nat) (hM : M < 2 ^ 62) (hk : k ≤ 64) : bits .and .i64 ((M : Int).fdiv (2 ^ (min k 64))) 1 = bitI M k := by
  rw [Nat.min_eq_left hk]; exact bit_at M k hM
theorem one_shl (k : Nat) (hk : k ≤ 20) : IntKind.i64.wrap (1 * 2 ^ (min k 64)) = ((2 ^ k : Nat) : Int) := by
  rw [Nat.min_eq_left (by omega), Int.one_mul, wraps_i64]
  · exact_mod_cast rfl
  · exact_mod_cast Nat.zero_le _
  · exact_mod_cast Nat.pow_lt_pow_right (by decide) (show k < 62 by omega)
/-- 'set | 1<<k' -/
theorem bit_set (M k : Nat) (hM : M < 2 ^ 20) (hk : k < 20) : bits .or .i64 (M : Int) ((2 ^ k : Nat) : Int) = ((M ||| 2 ^ k : Nat) : Int) ∧ M ||| 2 ^ k < 2 ^ 20 := by
  have h2 : 2 ^ k < 2 ^ 20 := Nat.pow_lt_pow_right (by decide) hk
  exact ⟨bit_or M _ (by omega) (by omega), Nat.or_lt_two_pow hM h2⟩
theorem bit_new (M k j : Nat) : (M ||| 2 ^ k).testBit j = (M.testBit j || decide (k = j)) := by
  rw [Nat.testBit_or, Nat.testBit_two_pow]
/-! ### In the walk's own form -/
theorem bit_at2 (M k : Nat) (hM : M < 2 ^ 62) : bits .and .i64 ((M : Int) / 2 ^ k) 1 = bitI M k := by
  rw [← bit_at M k hM, Int.fdiv_eq_ediv_of_nonneg _ (by exact_mod_cast Nat.zero_le _)]
theorem one_shl2 (k : Nat) (hk : k ≤ 20) : wrap64 (2 ^ k) = (2 : Int) ^ k := by
  have h : ((2 ^ k : Nat) : Int) < ((2 ^ 21 : Nat) : Int) := by exact_mod_cast Nat.pow_lt_pow_right (by decide) (show k < 21 by omega)
  have h0 : (0 : Int) ≤ ((2 ^ k : Nat) : Int) := Int.natCast_nonneg _
  have e : ((2 ^ k : Nat) : Int) = (2 : Int) ^ k := by exact_mod_cast rfl
  rw [e] at h h0
  unfold wrap64
  have : ((2 ^ 21 : Nat) : Int) = 2097152 := by decide
  omega
theorem bit_set2 (M k : Nat) (hM : M < 2 ^ 20) (hk : k < 20) : bits .or .i64 (M : Int) (2 ^ k) = ((M ||| 2 ^ k : Nat) : Int) := by
  have e : ((2 ^ k : Nat) : Int) = (2 : Int) ^ k := by exact_mod_cast rfl
  rw [← e]; exact (bit_set M k hM hk).1
end Go.Proofs.Ytjcepipgjpaclaa

namespace Go.Proofs.Ytjcepipgjpaclaa

theorem bit_xor (M b : Nat) (hM : M < 2 ^ 62) (hb : b < 2 ^ 62) : bits .xor .i64 (M : Int) (b : Int) = ((M ^^^ b : Nat) : Int) := by
  have ha' : M % 2 ^ IntKind.i64.bits = M := Nat.mod_eq_of_lt (Nat.lt_of_lt_of_le hM (by decide))
  have hb' : b % 2 ^ IntKind.i64.bits = b := Nat.mod_eq_of_lt (Nat.lt_of_lt_of_le hb (by decide))
  simp only [bits, BitVec.ofInt_natCast, BitVec.toNat_xor, BitVec.toNat_ofNat, ha', hb']
  exact wraps_i64 _ (Int.natCast_nonneg _) (by exact_mod_cast Nat.xor_lt_two_pow hM hb)
/-- 'set ^ 1<<k' -/
theorem bit_flip (M k : Nat) (hM : M < 2 ^ 20) (hk : k < 20) : bits .xor .i64 (M : Int) (2 ^ k) = ((M ^^^ 2 ^ k : Nat) : Int) := by
  have e : ((2 ^ k : Nat) : Int) = (2 : Int) ^ k := by exact_mod_cast rfl
  have h2 : 2 ^ k < 2 ^ 20 := Nat.pow_lt_pow_right (by decide) hk
  rw [← e]; exact bit_xor M _ (by omega) (by omega)
/-- How many of the first n numbers are in s. -/
def popc (s : Nat) : Nat → Nat
  | 0 => 0
  | k + 1 => popc s k + (if s.testBit k then 1 else 0)
/-- The least over the first k columns in s of a row's cost and what the rest takes, and of D. -/
def tbK (D : Int) (C : Nat → Nat → Int) (T : Nat → Int) (r s : Nat) : Nat → Int
  | 0 => D
  | k + 1 => if s.testBit k then min (tbK D C T r s k) (C r k + T (s ^^^ 2 ^ k)) else tbK D C T r s k
theorem xor_bit (s k j : Nat) : (s ^^^ 2 ^ k).testBit j = (s.testBit j ^^ decide (k = j)) := by
  rw [Nat.testBit_xor, Nat.testBit_two_pow]
theorem xor_lt {s k : Nat} (h : s.testBit k = true) : s ^^^ 2 ^ k < s := by
  have hk : (s ^^^ 2 ^ k).testBit k = false := by rw [xor_bit, h]; simp
  refine Nat.lt_of_le_of_ne (Nat.le_of_testBit fun j hj => ?_) fun e => ?_
  · rw [xor_bit] at hj
    by_cases e : k = j
    · subst e; exact h
    · simpa [e] using hj
  · rw [e, h] at hk; cases hk
theorem tbK_congr {D : Int} {C : Nat → Nat → Int} {T U : Nat → Int} {r s : Nat} (h : ∀ j, j < s → T j = U j) : ∀ k, tbK D C T r s k = tbK D C U r s k
  | 0 => rfl
  | k + 1 => by
    rw [tbK, tbK, tbK_congr h k]
    split
    · rename_i hb
      rw [h _ (xor_lt hb)]
    · rfl
/-- The least sum of a matching of the last rows with the columns in s. -/
def tb (C : Nat → Nat → Int) (n : Nat) (s : Nat) : Int :=
  if s = 0 then 0 else tbK 1000000000 C (fun j => if j < s then tb C n j else 0) (n - popc s n) s n
termination_by s
decreasing_by assumption
theorem tb_zero (C : Nat → Nat → Int) (n : Nat) : tb C n 0 = 0 := by rw [tb]; rfl
theorem tb_pos (C : Nat → Nat → Int) (n : Nat) {s : Nat} (h : s ≠ 0) : tb C n s = tbK 1000000000 C (tb C n) (n - popc s n) s n := by
  rw [tb, if_neg h]
  exact tbK_congr (fun j hj => if_pos hj) n
theorem popc_le (s : Nat) : ∀ n, popc s n ≤ n
  | 0 => Nat.le_refl _
  | n + 1 => by
    have := popc_le s n
    rw [popc]
    split <;> omega
theorem popc_pos {s j : Nat} (h : s.testBit j = true) : ∀ {n}, j < n → 0 < popc s n
  | n + 1, hj => by
    rw [popc]
    by_cases e : j = n
    · subst e; rw [if_pos h]; omega
    · have := popc_pos h (n := n) (by omega)
      omega
theorem popc_out {s j : Nat} (h : s.testBit j = true) : ∀ {n}, n ≤ j → popc (s ^^^ 2 ^ j) n = popc s n
  | 0, _ => rfl
  | n + 1, hj => by
    rw [popc, popc, popc_out h (n := n) (by omega), xor_bit]
    simp [show j ≠ n by omega]
theorem popc_xor {s j : Nat} (h : s.testBit j = true) : ∀ {n}, j < n → popc (s ^^^ 2 ^ j) n + 1 = popc s n
  | n + 1, hj => by
    rw [popc, popc, xor_bit]
    by_cases e : j = n
    · subst e
      rw [popc_out h (Nat.le_refl _)]
      simp [h]
    · have := popc_xor h (n := n) (by omega)
      simp only [show j ≠ n from e, decide_false, Bool.xor_false]
      omega
theorem full_bit (n k : Nat) : (2 ^ n - 1).testBit k = decide (k < n) := Nat.testBit_two_pow_sub_one n k
theorem popc_full {m : Nat} : ∀ {n : Nat}, n ≤ m → popc (2 ^ m - 1) n = n
  | 0, _ => rfl
  | n + 1, h => by
    rw [popc, popc_full (by omega), full_bit]
    simp [show n < m by omega]
theorem bit_some {s n : Nat} (h : s ≠ 0) (hs : s < 2 ^ n) : ∃ j, j < n ∧ s.testBit j = true := by
  obtain ⟨j, hj⟩ := Nat.exists_testBit_of_ne_zero h
  refine ⟨j, ?_, hj⟩
  apply Classical.byContradiction
  intro hn
  have : s < 2 ^ j := Nat.lt_of_lt_of_le hs (Nat.pow_le_pow_right (by decide) (by omega))
  rw [Nat.testBit_lt_two_pow this] at hj
  cases hj

/-- The costs are between 0 and 2100000. -/
def CostOk (C : Nat → Nat → Int) : Prop := ∀ i k, 0 ≤ C i k ∧ C i k ≤ 2100000
section
variable {D E : Int} {C : Nat → Nat → Int} {T : Nat → Int} {r s n : Nat}
theorem tbK_le : ∀ k, tbK D C T r s k ≤ D
  | 0 => Int.le_refl _
  | k + 1 => by
    have := tbK_le k
    rw [tbK]
    split <;> omega
theorem tbK_nonneg (hD : 0 ≤ D) (hC : ∀ k, 0 ≤ C r k) (hT : ∀ j, j < s → 0 ≤ T j) : ∀ k, 0 ≤ tbK D C T r s k
  | 0 => hD
  | k + 1 => by
    have := tbK_nonneg hD hC hT k
    rw [tbK]
    split
    · rename_i hb
      have := hT _ (xor_lt hb)
      have := hC k
      omega
    · exact this
theorem tbK_min {j : Nat} (hb : s.testBit j = true) : ∀ {k}, j < k → tbK D C T r s k ≤ C r j + T (s ^^^ 2 ^ j)
  | k + 1, hj => by
    rw [tbK]
    by_cases e : j = k
    · subst e; rw [if_pos hb]; omega
    · have := tbK_min hb (k := k) (by omega)
      split <;> omega
theorem tbK_att : ∀ k, tbK D C T r s k = D ∨ ∃ j, j < k ∧ s.testBit j = true ∧ tbK D C T r s k = C r j + T (s ^^^ 2 ^ j)
  | 0 => .inl rfl
  | k + 1 => by
    rw [tbK]
    split
    · rename_i hb
      rcases Int.le_total (tbK D C T r s k) (C r k + T (s ^^^ 2 ^ k)) with h | h
      · rw [Int.min_eq_left h]
        rcases tbK_att k with h2 | ⟨j, h1, h2, h3⟩
        · exact .inl h2
        · exact .inr ⟨j, by omega, h2, h3⟩
      · rw [Int.min_eq_right h]
        exact .inr ⟨k, by omega, hb, rfl⟩
    · rcases tbK_att k with h2 | ⟨j, h1, h2, h3⟩
      · exact .inl h2
      · exact .inr ⟨j, by omega, h2, h3⟩
theorem tbK_same {k j : Nat} (hj : j < k) (hb : s.testBit j = true) (h1 : C r j + T (s ^^^ 2 ^ j) < D) (h2 : C r j + T (s ^^^ 2 ^ j) < E) : tbK D C T r s k = tbK E C T r s k := by
  have a := tbK_min (D := D) (C := C) (T := T) (r := r) hb hj
  have b := tbK_min (D := E) (C := C) (T := T) (r := r) hb hj
  rcases tbK_att (D := D) (C := C) (T := T) (r := r) (s := s) k with h | ⟨x, x1, x2, x3⟩
  · omega
  rcases tbK_att (D := E) (C := C) (T := T) (r := r) (s := s) k with h | ⟨y, y1, y2, y3⟩
  · omega
  have c := tbK_min (D := E) (C := C) (T := T) (r := r) x2 x1
  have d := tbK_min (D := D) (C := C) (T := T) (r := r) y2 y1
  omega
theorem tb_bound (hC : CostOk C) (n : Nat) : ∀ s, 0 ≤ tb C n s ∧ tb C n s ≤ 1000000000 := by
  intro s
  induction s using Nat.strongRecOn with
  | ind s ih =>
    by_cases h : s = 0
    · subst h; rw [tb_zero]; omega
    · rw [tb_pos C n h]
      exact ⟨tbK_nonneg (by omega) (fun k => (hC _ k).1) (fun j hj => (ih j hj).1) n, tbK_le n⟩
theorem tb_small (hC : CostOk C) (n : Nat) : ∀ s, s < 2 ^ n → tb C n s ≤ 2100000 * (popc s n : Nat) := by
  intro s
  induction s using Nat.strongRecOn with
  | ind s ih =>
    intro hs
    by_cases h : s = 0
    · subst h; rw [tb_zero]; omega
    · obtain ⟨j, hj, hb⟩ := bit_some h hs
      have h1 := ih _ (xor_lt hb) (Nat.lt_trans (xor_lt hb) hs)
      have h2 := popc_xor hb hj
      rw [tb_pos C n h]
      have h3 := tbK_min (D := 1000000000) (C := C) (T := tb C n) (r := n - popc s n) hb hj
      have h4 := (hC (n - popc s n) j).2
      omega
/-- A column of the set takes what the table says. -/
theorem tb_att (hC : CostOk C) (hn : n ≤ 12) (h : s ≠ 0) (hs : s < 2 ^ n) : ∃ j, j < n ∧ s.testBit j = true ∧ C (n - popc s n) j + tb C n (s ^^^ 2 ^ j) = tb C n s := by
  have h0 := tb_small hC n s hs
  have h1 := popc_le s n
  rw [tb_pos C n h] at h0 ⊢
  rcases tbK_att (D := 1000000000) (C := C) (T := tb C n) (r := n - popc s n) (s := s) n with h2 | ⟨j, h2, h3, h4⟩
  · omega
  · exact ⟨j, h2, h3, h4.symm⟩
theorem tb_min {j : Nat} (h : s.testBit j = true) (hj : j < n) : tb C n s ≤ C (n - popc s n) j + tb C n (s ^^^ 2 ^ j) := by
  have : s ≠ 0 := by rintro rfl; simp at h
  rw [tb_pos C n this]
  exact tbK_min h hj
end

/-- The first column that the condition holds of, among k; -1 without one. -/
def fst (P : Nat → Bool) : Nat → Int
  | 0 => -1
  | k + 1 => if fst P k < 0 && P k then (k : Int) else fst P k
section
variable {P Q : Nat → Bool}
theorem fst_lt : ∀ k, -1 ≤ fst P k ∧ fst P k < k
  | 0 => by simp [fst]
  | k + 1 => by
    have := fst_lt k
    rw [fst]
    split <;> omega
theorem fst_none : ∀ {k}, (∀ j, j < k → P j = false) → fst P k = -1
  | 0, _ => rfl
  | k + 1, h => by
    rw [fst, fst_none (fun j hj => h j (by omega)), h k (by omega)]
    rfl
theorem fst_found {j : Nat} (h : P j = true) : ∀ {k}, j < k → 0 ≤ fst P k ∧ fst P k ≤ j
  | k + 1, hj => by
    rw [fst]
    by_cases e : j = k
    · subst e
      have := fst_lt (P := P) j
      by_cases h2 : fst P j < 0
      · simp [h2, h]
      · simp [h2]; omega
    · have := fst_found h (k := k) (by omega)
      rw [if_neg (by simp; omega)]
      exact this
theorem fst_is : ∀ {k}, 0 ≤ fst P k → P (fst P k).toNat = true
  | 0, h => by simp [fst] at h
  | k + 1, h => by
    rw [fst] at h ⊢
    by_cases e : fst P k < 0 && P k
    · rw [if_pos e]; simp at e; simpa using e.2
    · rw [if_neg e] at h ⊢; exact fst_is h
theorem fst_congr : ∀ {k}, (∀ j, j < k → P j = Q j) → fst P k = fst Q k
  | 0, _ => rfl
  | k + 1, h => by rw [fst, fst, fst_congr (fun j hj => h j (by omega)), h k (by omega)]
/-- Once found, it stays. -/
theorem fst_stop {j : Nat} (h0 : ∀ i, i < j → P i = false) (h : P j = true) : ∀ {k}, j < k → fst P k = j
  | k + 1, hj => by
    rw [fst]
    by_cases e : j = k
    · subst e; rw [fst_none h0, h]; rfl
    · rw [fst_stop h0 h (k := k) (by omega), if_neg (by simp; omega)]
end

/-- Does column k of the set take what the table says? -/
def mlP (C : Nat → Nat → Int) (T : Nat → Int) (r s k : Nat) : Bool := s.testBit k && C r k + T (s ^^^ 2 ^ k) == T s
/-- The columns left after i rows. -/
def mlS (C : Nat → Nat → Int) (T : Nat → Int) (n : Nat) : Nat → Nat
  | 0 => 2 ^ n - 1
  | i + 1 => mlS C T n i ^^^ 2 ^ (fst (mlP C T i (mlS C T n i)) n).toNat
/-- The columns of the first i rows. -/
def mlL (C : Nat → Nat → Int) (T : Nat → Int) (n : Nat) : Nat → List Int
  | 0 => []
  | i + 1 => mlL C T n i ++ [fst (mlP C T i (mlS C T n i)) n]
theorem mlL_length (C : Nat → Nat → Int) (T : Nat → Int) (n : Nat) : ∀ i, (mlL C T n i).length = i
  | 0 => rfl
  | i + 1 => by simp [mlL, mlL_length C T n i]
/-- What holds of the columns left, and of the column taken. -/
theorem mlS_ok {C : Nat → Nat → Int} {n : Nat} (hC : CostOk C) (hn : n ≤ 12) : ∀ i, i ≤ n → mlS C (tb C n) n i < 2 ^ n ∧ popc (mlS C (tb C n) n i) n = n - i ∧
    (i < n → 0 ≤ fst (mlP C (tb C n) i (mlS C (tb C n) n i)) n ∧ fst (mlP C (tb C n) i (mlS C (tb C n) n i)) n < n ∧ mlP C (tb C n) i (mlS C (tb C n) n i) (fst (mlP C (tb C n) i (mlS C (tb C n) n i)) n).toNat = true) := by
  have last : ∀ i s, i < n → s < 2 ^ n → popc s n = n - i → 0 ≤ fst (mlP C (tb C n) i s) n ∧ fst (mlP C (tb C n) i s) n < n ∧ mlP C (tb C n) i s (fst (mlP C (tb C n) i s) n).toNat = true := by
    intro i s hi hs hp
    have h0 : s ≠ 0 := by
      rintro rfl
      have : ∀ m, popc 0 m = 0 := by
        intro m
        induction m with
        | zero => rfl
        | succ m ih => rw [popc, ih]; simp
      rw [this] at hp
      omega
    obtain ⟨j, h1, h2, h3⟩ := tb_att hC hn h0 hs
    rw [hp, show n - (n - i) = i by omega] at h3
    have h4 := fst_found (P := mlP C (tb C n) i s) (j := j) (by simp [mlP, h2, h3]) h1
    exact ⟨h4.1, (fst_lt n).2, fst_is h4.1⟩
  intro i
  induction i with
  | zero =>
    intro _
    have h1 : mlS C (tb C n) n 0 < 2 ^ n := by
      have := Nat.two_pow_pos n
      show 2 ^ n - 1 < 2 ^ n
      omega
    have h2 : popc (mlS C (tb C n) n 0) n = n - 0 := popc_full (Nat.le_refl _)
    exact ⟨h1, h2, fun hi => last 0 _ hi h1 h2⟩
  | succ i ih =>
    intro hi
    obtain ⟨h1, h2, h3⟩ := ih (by omega)
    obtain ⟨a, b, c⟩ := h3 (by omega)
    obtain ⟨j, hj⟩ : ∃ j : Nat, (fst (mlP C (tb C n) i (mlS C (tb C n) n i)) n).toNat = j := ⟨_, rfl⟩
    have e : mlS C (tb C n) n (i + 1) = mlS C (tb C n) n i ^^^ 2 ^ j := by rw [mlS, hj]
    rw [hj] at c
    have hb : (mlS C (tb C n) n i).testBit j = true := by
      simp only [mlP, Bool.and_eq_true] at c
      exact c.1
    have h5 : mlS C (tb C n) n (i + 1) < 2 ^ n := by rw [e]; exact Nat.lt_trans (xor_lt hb) h1
    have h6 : popc (mlS C (tb C n) n (i + 1)) n = n - (i + 1) := by
      have := popc_xor hb (n := n) (by omega)
      rw [e]
      omega
    exact ⟨h5, h6, fun hi2 => last (i + 1) _ hi2 h5 h6⟩

/-- The table as a list of 2^n numbers, of which those below m have been reckoned. -/
def tbL (C : Nat → Nat → Int) (n m : Nat) : List Int := (List.range (2 ^ n)).map fun i => if i < m then tb C n i else 0
theorem tbL_length (C : Nat → Nat → Int) (n m : Nat) : (tbL C n m).length = 2 ^ n := by simp [tbL]
theorem tbL_get {C : Nat → Nat → Int} {n m j : Nat} (hj : j < m) (h : j < 2 ^ n) : (tbL C n m).getD j 0 = tb C n j := by
  simp [tbL, List.getD_eq_getElem?_getD, h, hj]
theorem tbL_one (C : Nat → Nat → Int) (n : Nat) : tbL C n 1 = List.replicate (2 ^ n) 0 := by
  refine List.ext_getElem (by simp [tbL]) fun i h1 h2 => ?_
  simp only [tbL, List.getElem_map, List.getElem_range, List.getElem_replicate]
  split
  · rw [show i = 0 by omega, tb_zero]
  · rfl
theorem tbL_set {C : Nat → Nat → Int} {n m : Nat} (h : m < 2 ^ n) : (tbL C n m).set m (tb C n m) = tbL C n (m + 1) := by
  refine List.ext_getElem (by simp [tbL]) fun i h1 h2 => ?_
  simp only [tbL, List.getElem_set, List.getElem_map, List.getElem_range]
  by_cases e : m = i
  · subst e; simp
  · rw [if_neg e]
    by_cases e2 : i < m
    · rw [if_pos e2, if_pos (by omega)]
    · rw [if_neg e2, if_neg (by omega)]
end Go.Proofs.Ytjcepipgjpaclaa
