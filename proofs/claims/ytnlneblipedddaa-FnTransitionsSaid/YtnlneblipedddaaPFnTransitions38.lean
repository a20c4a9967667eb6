/- Contracts of the lists of pairs in conflict, in the program and in the reference. Conditions: the transition is good, its slices can be read, and the least distance lies within its bounds. The contract of the reference's list of pairs in conflict. Conditions: the transition is good, its slices can be read, and the least distance lies within its bounds. Contracts of the two ConflictPairs. Conditions: the transition's slices can be read, and are short. Contracts of the two GreatestLeast. Conditions: the transition's slices can be read, and are short. Contracts of the two ConflictCounts. Conditions: the transition's slices can be read, and are short. What the law on conflicts asks of the lists of pairs, counts and free performers: plain laws. Condition: a good transition, a least distance within its bounds. Contracts of the laws' own comparisons and questions on lists of numbers, rows and moves, of TransitionMoves on both sides, and of the program's StayApart. Conditions: the lists can be read. -/
import Derived.Test.YtnlneblipedddaaPFnTransitions31
import Derived.Test.YtnlneblipedddaaPFnTransitions12
import Derived.Test.YtnlneblipedddaaPFnTransitions37
import Derived.Test.YtnlneblipedddaaPFnTransitions02
import Derived.Deep.DeepCutAuto
import Derived.Test.YtnlneblipedddaaPFnTransitions36
import Derived.Test.YtnlneblipedddaaPFnTransitions04
import Derived.Test.YtnlneblipedddaaPFnTransitions15
import Derived.Deep.RegionHeld3
namespace Go.Proofs.Ytnlneblipedddaa
open Go.RowKit

theorem Rd.moves {w : World} {B n : Nat} {A : Option Addr} {c : Nat} {t : TrN} (h : Rd w B 5 (.slice A n c) n (mvTo t n)) (hn : 0 < n) : ∃ b off, A = some ⟨b, off, none⟩ ∧ b < B ∧
    ∀ (W : World) (j : Nat), Below B w W → j < n → W.cell? ⟨b, off + j * 5, none⟩ = some (.int .i64 (X t.xs j)) ∧ W.cell? ⟨b, off + j * 5 + 1, none⟩ = some (.int .i64 (Y t.xs j)) ∧
      W.cell? ⟨b, off + j * 5 + 2, none⟩ = some (.int .i64 (X t.ys (plc t j))) ∧ W.cell? ⟨b, off + j * 5 + 3, none⟩ = some (.int .i64 (Y t.ys (plc t j))) ∧ W.cell? ⟨b, off + j * 5 + 4, none⟩ = some (.int .i64 t.c) := by
  obtain ⟨_, A', c', e, h⟩ := h
  simp only [Value.slice.injEq, true_and] at e
  obtain ⟨rfl, rfl⟩ := e
  obtain ⟨b, off, rfl, hb, hc⟩ := h hn
  refine ⟨b, off, rfl, hb, fun W j hW hj => ?_⟩
  obtain ⟨g0, g1, g2, g3, g4⟩ := mvTo_get t n j hj
  have k0 := hc (j * 5) (by omega)
  have k1 := hc (j * 5 + 1) (by omega)
  have k2 := hc (j * 5 + 2) (by omega)
  have k3 := hc (j * 5 + 3) (by omega)
  have k4 := hc (j * 5 + 4) (by omega)
  rw [g0] at k0
  rw [g1, ← Nat.add_assoc] at k1
  rw [g2, ← Nat.add_assoc] at k2
  rw [g3, ← Nat.add_assoc] at k3
  rw [g4, ← Nat.add_assoc] at k4
  exact ⟨(hW.cell (p := ⟨b, off + j * 5, none⟩) hb).trans k0, (hW.cell (p := ⟨b, off + j * 5 + 1, none⟩) hb).trans k1, (hW.cell (p := ⟨b, off + j * 5 + 2, none⟩) hb).trans k2, (hW.cell (p := ⟨b, off + j * 5 + 3, none⟩) hb).trans k3, (hW.cell (p := ⟨b, off + j * 5 + 4, none⟩) hb).trans k4⟩
theorem okMs {t : TrN} (h : TrOk t) {i k : Nat} (hi : i < t.n) (hk : k < t.n) : okM (X t.xs i) (Y t.xs i) (X t.ys (plc t i)) (Y t.ys (plc t i)) ∧ okM (X t.xs k) (Y t.xs k) (X t.ys (plc t k)) (Y t.ys (plc t k)) := by
  have one : ∀ {i : Nat}, i < t.n → okM (X t.xs i) (Y t.xs i) (X t.ys (plc t i)) (Y t.ys (plc t i)) := by
    intro i hi
    have h1 := spotB_yes (h.from_ i hi)
    have h2 := spotB_yes (h.to_ _ (h.place i hi).2)
    exact ⟨⟨by omega, by omega⟩, ⟨by omega, by omega⟩, ⟨by omega, by omega⟩, by omega, by omega⟩
  exact ⟨one hi, one hk⟩
theorem sa_cf (t : TrN) (L : Int) (i k : Nat) : saB (X t.xs i) (Y t.xs i) (X t.ys (plc t i)) (Y t.ys (plc t i)) (X t.xs k) (Y t.xs k) (X t.ys (plc t k)) (Y t.ys (plc t k)) L = !cfAt t L i k := by
  show decide (L * L * apB t i k ≤ apT t i k) = !decide (apT t i k < L * L * apB t i k)
  rw [← decide_not]
  apply decide_eq_decide.2
  omega
theorem pr_len {p : Nat → Nat → Bool} {n a d : Nat} (hn : n ≤ 12) (ha : a ≤ n) (hd : d ≤ n) : (prTo p n a ++ prIn p a d).length ≤ 1000 := by
  have h1 := prTo_len p n a
  have h2 := prIn_len p a d
  have h3 : a * n ≤ 12 * 12 := Nat.mul_le_mul (by omega) hn
  rw [List.length_append]
  omega
end Go.Proofs.Ytnlneblipedddaa

namespace Go.Proofs.Ytnlneblipedddaa
open Go.RowKit

end Go.Proofs.Ytnlneblipedddaa

namespace Go.Proofs.Ytnlneblipedddaa
open Go.RowKit

theorem cp_in {t : TrN} {L : Int} (h : cpB t L = true) : trB t = true ∧ 0 ≤ L ∧ L ≤ 80 := by
  simp only [cpB, Bool.and_eq_true] at h
  have := inB_yes h.2
  exact ⟨h.1, this.1, this.2⟩
end Go.Proofs.Ytnlneblipedddaa

namespace Go.Proofs.Ytnlneblipedddaa
open Go.RowKit

theorem gl_at {t : TrN} {l : Nat} (h : (prTo (cfAt t (l : Int)) t.n t.n).length = 0) : glAt t l = true := by simp only [glAt, h]; rfl
theorem gl_not {t : TrN} {l : Nat} (h : (prTo (cfAt t (l : Int)) t.n t.n).length ≠ 0) : glAt t l = false := by simpa [glAt] using h
theorem down_yes {t : TrN} {l : Nat} (h0 : 0 < l) (h : glAt t l = true) : glDown t l = l := by
  obtain ⟨k, rfl⟩ : ∃ k, l = k + 1 := ⟨l - 1, by omega⟩
  rw [glDown, if_pos h]
theorem down_no {t : TrN} {l : Nat} (h0 : 0 < l) (h : glAt t l = false) : glDown t l = glDown t (l - 1) := by
  obtain ⟨k, rfl⟩ : ∃ k, l = k + 1 := ⟨l - 1, by omega⟩
  rw [glDown, if_neg (by simp [h])]; rfl
theorem up_yes {t : TrN} {l : Nat} (h : glAt t l = true) : glUp t (l + 1) = l := by rw [glUp, if_pos h]
theorem up_no {t : TrN} {l : Nat} (h : glAt t l = false) : glUp t (l + 1) = glUp t l := by rw [glUp, if_neg (by simp [h])]
end Go.Proofs.Ytnlneblipedddaa

namespace Go.Proofs.Ytnlneblipedddaa
open Go.RowKit

theorem only_cell (w : World) (c i : Nat) (u : Value) : Only c (c + 1) w (w.setCell ⟨c, i, none⟩ u) :=
  ⟨rfl, rfl, rfl, by simp, fun k _ ho => Below.heap_setCell w _ u k (by show k ≠ c; omega)⟩
theorem pairs_at {p : Nat → Nat → Bool} {n j : Nat} (h : j < (prTo p n n).length) : ∃ i k : Nat, i < k ∧ k < n ∧ (prTo p n n).getD j [] = [(i : Int), (k : Int)] := by
  obtain ⟨i, k, _, h2, h3, _, h5⟩ := prTo_mem (List.getElem_mem h)
  refine ⟨i, k, h2, h3, ?_⟩
  rw [List.getD_eq_getElem?_getD, List.getElem?_eq_getElem h]
  exact h5
end Go.Proofs.Ytnlneblipedddaa

namespace Go.Proofs.Ytnlneblipedddaa
open Go.RowKit

theorem prIn_pre (p : Nat → Nat → Bool) (i : Nat) {a b : Nat} (h : a ≤ b) : prIn p i a <+: prIn p i b := by
  induction b with
  | zero =>
    obtain rfl : a = 0 := by omega
    exact List.prefix_rfl
  | succ b ih =>
    rcases Nat.lt_or_ge b a with h1 | h1
    · obtain rfl : a = b + 1 := by omega
      exact List.prefix_rfl
    · exact (ih h1).trans (by rw [prIn]; exact List.prefix_append _ _)
theorem prTo_pre (p : Nat → Nat → Bool) (n : Nat) {a b : Nat} (h : a ≤ b) : prTo p n a <+: prTo p n b := by
  induction b with
  | zero =>
    obtain rfl : a = 0 := by omega
    exact List.prefix_rfl
  | succ b ih =>
    rcases Nat.lt_or_ge b a with h1 | h1
    · obtain rfl : a = b + 1 := by omega
      exact List.prefix_rfl
    · exact (ih h1).trans (by rw [prTo]; exact List.prefix_append _ _)
/-- Where the pair (i, k) lies, if it is there. -/
def prC (p : Nat → Nat → Bool) (n i k : Nat) : Nat := (prTo p n i).length + (prIn p i k).length
theorem prC_first (p : Nat → Nat → Bool) (n i : Nat) : prC p n i (i + 1) = (prTo p n i).length := by unfold prC; rw [prIn_first p i _ (Nat.le_refl _)]; rfl
theorem prC_last (p : Nat → Nat → Bool) (n i : Nat) : prC p n i n = (prTo p n (i + 1)).length := by unfold prC; rw [prTo, List.length_append]
theorem prC_le (p : Nat → Nat → Bool) {n i k : Nat} (hi : i < n) (hk : k ≤ n) : prC p n i k ≤ (prTo p n n).length := by
  have h1 := (prIn_pre p i hk).length_le
  have h2 := (prTo_pre p n (a := i + 1) (b := n) hi).length_le
  have h3 := prC_last p n i
  unfold prC at h3 ⊢
  omega
theorem prC_yes {p : Nat → Nat → Bool} {n i k : Nat} (hik : i < k) (hp : p i k = true) : prC p n i (k + 1) = prC p n i k + 1 := by
  unfold prC; rw [prIn_yes hik hp, List.length_append]; rfl
theorem prC_no {p : Nat → Nat → Bool} {n i k : Nat} (hp : p i k = false) : prC p n i (k + 1) = prC p n i k := by
  unfold prC; rw [prIn_no hp]
theorem pr_next {p : Nat → Nat → Bool} {n i k : Nat} (hik : i < k) (hk : k < n) (hp : p i k = true) : prC p n i k < (prTo p n n).length ∧ (prTo p n n).getD (prC p n i k) [] = [(i : Int), (k : Int)] := by
  obtain ⟨t1, e1⟩ := prTo_pre p n (show i + 1 ≤ n by omega)
  obtain ⟨t2, e2⟩ := prIn_pre p i (show k + 1 ≤ n by omega)
  have e3 : prTo p n n = (prTo p n i ++ prIn p i k) ++ ([(i : Int), (k : Int)] :: (t2 ++ t1)) := by
    rw [← e1, prTo, ← e2, prIn_yes hik hp]
    simp
  have hl : (prTo p n i ++ prIn p i k).length = prC p n i k := by rw [List.length_append]; rfl
  constructor
  · rw [e3, List.length_append, hl]; simp
  · rw [e3, List.getD_eq_getElem?_getD, List.getElem?_append_right (by rw [hl]; exact Nat.le_refl _), hl, Nat.sub_self]
    rfl
/-- If the pair has not the property, then another one lies there, or none. -/
theorem pr_other {p : Nat → Nat → Bool} {n i k j : Nat} (hp : p i k = false) (hj : j < (prTo p n n).length) : ∃ a b : Nat, (prTo p n n).getD j [] = [(a : Int), (b : Int)] ∧ (a = i → b ≠ k) ∧ a < 1000000 + n ∧ b < n := by
  obtain ⟨a, b, h1, h2, h3, h4, h5⟩ := prTo_mem (List.getElem_mem hj)
  refine ⟨a, b, ?_, ?_, by omega, h3⟩
  · rw [List.getD_eq_getElem?_getD, List.getElem?_eq_getElem hj]; exact h5
  · rintro rfl rfl
    rw [hp] at h4; cases h4
/-- The sum of the first k numbers. -/
def sumTo (xs : List Int) : Nat → Int
  | 0 => 0
  | k + 1 => sumTo xs k + xs.getD k 0
theorem sumTo_set (l : List Int) (a : Nat) (v : Int) : ∀ m, sumTo (l.set a v) m = sumTo l m + (if a < m ∧ a < l.length then v - l.getD a 0 else 0)
  | 0 => by simp [sumTo]
  | m + 1 => by
    rw [sumTo, sumTo, sumTo_set l a v m]
    simp only [List.getD_eq_getElem?_getD, List.getElem?_set]
    by_cases e : a = m
    · subst e
      by_cases h2 : a < l.length
      · simp [h2]; omega
      · simp [h2, List.getElem?_eq_none (Nat.le_of_not_lt h2)]
    · rw [if_neg e]
      by_cases h2 : a < l.length
      · by_cases h3 : a < m
        · rw [if_pos ⟨h3, h2⟩, if_pos ⟨by omega, h2⟩]; omega
        · rw [if_neg (by omega), if_neg (by omega)]; omega
      · rw [if_neg (by omega), if_neg (by omega)]; omega
theorem sumTo_zero (n : Nat) : ∀ m, sumTo (List.replicate n 0) m = 0
  | 0 => rfl
  | m + 1 => by
    rw [sumTo, sumTo_zero n m]
    simp only [List.getD_eq_getElem?_getD, List.getElem?_replicate]
    split <;> rfl
theorem cc_sum {p : Nat → Nat → Bool} {n : Nat} : ∀ k, k ≤ (prTo p n n).length → sumTo (ccTo (prTo p n n) n k) n = 2 * (k : Int)
  | 0, _ => by rw [ccTo, sumTo_zero]; rfl
  | k + 1, hk => by
    obtain ⟨a, b, h1, h2, h3⟩ := pairs_at (p := p) (n := n) (j := k) (by omega)
    have hl := ccTo_length (prTo p n n) n k
    rw [ccTo, h3]
    show sumTo (bmp (bmp (ccTo (prTo p n n) n k) (a : Int)) (b : Int)) n = _
    unfold bmp
    rw [sumTo_set, sumTo_set, cc_sum k (by omega)]
    simp only [Int.toNat_natCast, List.length_set, hl]
    rw [if_pos (by omega), if_pos (by omega)]
    have e : ((k + 1 : Nat) : Int) = (k : Int) + 1 := by omega
    rw [e]
    omega
theorem hasI_mem {xs : List Int} {x : Int} : hasI xs xs.length x = true ↔ x ∈ xs := by
  simp only [hasI, List.any_eq_true, List.mem_range, beq_iff_eq]
  constructor
  · rintro ⟨j, hj, e⟩
    rw [List.getD_eq_getElem?_getD, List.getElem?_eq_getElem hj] at e
    subst e
    exact List.getElem_mem hj
  · intro h
    obtain ⟨j, hj, e⟩ := List.getElem_of_mem h
    exact ⟨j, hj, by rw [List.getD_eq_getElem?_getD, List.getElem?_eq_getElem hj]; exact e⟩
theorem fpTo_mem {cs : List Int} {x : Int} : ∀ {n}, x ∈ fpTo cs n ↔ ∃ i : Nat, i < n ∧ x = (i : Int) ∧ cs.getD i 0 = 0
  | 0 => by simp [fpTo]
  | n + 1 => by
    rw [fpTo, List.mem_append, fpTo_mem]
    constructor
    · rintro (⟨i, h1, h2, h3⟩ | h)
      · exact ⟨i, by omega, h2, h3⟩
      · split at h
        · rename_i h0
          simp at h
          exact ⟨n, by omega, h, h0⟩
        · simp at h
    · rintro ⟨i, h1, h2, h3⟩
      by_cases e : i = n
      · subst e
        right
        rw [if_pos h3]
        simp [h2]
      · exact .inl ⟨i, by omega, h2, h3⟩
theorem fp_has {cs : List Int} {n i : Nat} (hi : i < n) : hasI (fpTo cs n) (fpTo cs n).length (i : Int) = decide (cs.getD i 0 = 0) := by
  rw [Bool.eq_iff_iff, hasI_mem, fpTo_mem, decide_eq_true_eq]
  constructor
  · rintro ⟨j, h1, h2, h3⟩
    obtain rfl : i = j := by omega
    exact h3
  · intro h
    exact ⟨i, hi, rfl, h⟩
/-! ### The greatest least distance -/
theorem ap_bnds {t : TrN} (h : TrOk t) {i k : Nat} (hi : i < t.n) (hk : k < t.n) : 0 ≤ apT t i k ∧ 1 ≤ apB t i k := by
  obtain ⟨a, b⟩ := okMs h hi hk
  have := lp_bounds a b
  exact ⟨this.1, this.2.2.1⟩
theorem cf_mono {t : TrN} (h : TrOk t) {i k : Nat} (hi : i < t.n) (hk : k < t.n) {L M : Nat} (hLM : L ≤ M) (hc : cfAt t (L : Int) i k = true) : cfAt t (M : Int) i k = true := by
  have hb := ap_bnds h hi hk
  simp only [cfAt, decide_eq_true_eq] at hc ⊢
  have h1 : (L : Int) * L ≤ (M : Int) * M := Int.mul_le_mul (by omega) (by omega) (by omega) (by omega)
  have h2 : (L : Int) * L * apB t i k ≤ (M : Int) * M * apB t i k := Int.mul_le_mul_of_nonneg_right h1 (by omega)
  omega
theorem gl_all {t : TrN} {L : Nat} : glAt t L = true ↔ ∀ i k, i < k → k < t.n → cfAt t (L : Int) i k = false := by
  simp only [glAt, beq_iff_eq, List.length_eq_zero_iff]
  constructor
  · intro h i k hik hk
    cases hc : cfAt t (L : Int) i k with
    | false => rfl
    | true =>
      have := (pr_next (p := cfAt t (L : Int)) hik hk hc).1
      rw [h] at this
      simp at this
  · intro h
    cases he : prTo (cfAt t (L : Int)) t.n t.n with
    | nil => rfl
    | cons r l =>
      obtain ⟨i, k, _, h2, h3, h4, _⟩ := prTo_mem (show r ∈ prTo (cfAt t (L : Int)) t.n t.n by rw [he]; simp)
      rw [h i k h2 h3] at h4
      cases h4
theorem gl_mono {t : TrN} (h : TrOk t) {L M : Nat} (hLM : L ≤ M) (hM : glAt t M = true) : glAt t L = true := by
  rw [gl_all] at hM ⊢
  intro i k hik hk
  cases hc : cfAt t (L : Int) i k with
  | false => rfl
  | true =>
    have := cf_mono h (by omega) hk hLM hc
    rw [hM i k hik hk] at this
    cases this
theorem gl_zero {t : TrN} (h : TrOk t) : glAt t 0 = true := by
  rw [gl_all]
  intro i k hik hk
  have hb := ap_bnds h (show i < t.n by omega) hk
  simp only [cfAt, decide_eq_false_iff_not]
  simp
  exact hb.1
theorem down_is {t : TrN} (h : TrOk t) : ∀ k, glAt t (glDown t k) = true ∧ glDown t k ≤ k ∧ ∀ L, L ≤ k → glAt t L = true → L ≤ glDown t k
  | 0 => ⟨gl_zero h, Nat.le_refl _, fun L hL _ => hL⟩
  | k + 1 => by
    obtain ⟨h1, h2, h3⟩ := down_is h k
    rw [glDown]
    split
    · rename_i hg
      exact ⟨hg, Nat.le_refl _, fun L hL _ => hL⟩
    · rename_i hg
      refine ⟨h1, by omega, fun L hL hgL => ?_⟩
      rcases Nat.lt_or_ge k L with h4 | h4
      · obtain rfl : L = k + 1 := by omega
        exact absurd hgL hg
      · exact h3 L h4 hgL
/-- No pairs if and only if the distance is at most the greatest least one. -/
theorem gl_law {t : TrN} (h : TrOk t) {L : Int} (h0 : 0 ≤ L) (h1 : L ≤ 80) : (prTo (cfAt t L) t.n t.n).length = 0 ↔ L ≤ (glDown t 80 : Int) := by
  obtain ⟨l, rfl⟩ := Int.eq_ofNat_of_zero_le h0
  obtain ⟨a, b, c⟩ := down_is h 80
  have e : (prTo (cfAt t (l : Int)) t.n t.n).length = 0 ↔ glAt t l = true := by simp [glAt]
  rw [e]
  constructor
  · intro hg
    have := c l (by omega) hg
    omega
  · intro hl
    exact gl_mono h (by omega) a
/-- The row of the times. -/
theorem ct_get (t : TrN) (rs : List (List Int)) : ∀ {k j}, j < k → (ctTo t rs k).getD j [] = [(rs.getD j []).getD 0 0, (rs.getD j []).getD 1 0, apS t (r0 (rs.getD j [])) (r1 (rs.getD j [])), apU t (r0 (rs.getD j [])) (r1 (rs.getD j []))]
  | k + 1, j, h => by
    have hl := (ctTo_len t rs k).1
    rw [ctTo, List.getD_eq_getElem?_getD]
    by_cases e : j = k
    · subst e
      rw [List.getElem?_append_right (by omega), hl, Nat.sub_self]
      rfl
    · rw [List.getElem?_append_left (by omega), ← List.getD_eq_getElem?_getD]
      exact ct_get t rs (by omega)
end Go.Proofs.Ytnlneblipedddaa

namespace Go.Proofs.Ytnlneblipedddaa
open Go.RowKit

theorem small_at2 {rs : List (List Int)} (h : smallRows rs) {j : Nat} {r : List Int} (hr : rs[j]? = some r) : r.length ≤ 1000 := h.2 _ (List.mem_of_getElem? hr)
end Go.Proofs.Ytnlneblipedddaa
