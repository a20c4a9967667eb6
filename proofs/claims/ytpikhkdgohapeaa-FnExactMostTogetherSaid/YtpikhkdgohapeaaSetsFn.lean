/- The sets of those with whom each performer is in conflict, as bits: plain laws. Without conditions. -/
import Derived.Test.YtpikhkdgohapeaaConfFn
import Derived.Test.YtpikhkdgohapeaaTogetherFn
namespace Go.Proofs.Ytpikhkdgohapeaa
def orb (l : List Int) (i k : Nat) : List Int := l.set i (((l.getD i 0).toNat ||| 2 ^ k : Nat) : Int)
def smTo (rs : List (List Int)) (n : Nat) : Nat → List Int
  | 0 => List.replicate n 0
  | j + 1 => orb (orb (smTo rs n j) (r0 (rs.getD j [])) (r1 (rs.getD j []))) (r1 (rs.getD j [])) (r0 (rs.getD j []))
/-- Is b in the set of a? -/
def qS (l : List Int) (a b : Nat) : Bool := (l.getD a 0).toNat.testBit b
def maskIn (l : List Int) : Prop := ∀ i, 0 ≤ l.getD i 0 ∧ l.getD i 0 < 4096
theorem orb_length (l : List Int) (i k : Nat) : (orb l i k).length = l.length := by simp [orb]
theorem smTo_length (rs : List (List Int)) (n : Nat) : ∀ j, (smTo rs n j).length = n
  | 0 => by simp [smTo]
  | j + 1 => by simp [smTo, orb_length, smTo_length rs n j]
theorem orb_get (l : List Int) (i k a : Nat) : (orb l i k).getD a 0 = if a = i ∧ i < l.length then (((l.getD i 0).toNat ||| 2 ^ k : Nat) : Int) else l.getD a 0 := by
  simp only [orb, List.getD_eq_getElem?_getD, List.getElem?_set]
  by_cases h : i = a
  · subst h
    by_cases h2 : i < l.length
    · simp [h2]
    · simp [h2, List.getElem?_eq_none (Nat.le_of_not_lt h2)]
  · simp [h, Ne.symm h]
theorem orb_in {l : List Int} {i k : Nat} (h : maskIn l) (hk : k < 12) : maskIn (orb l i k) := by
  intro a
  rw [orb_get]
  split
  · have h1 := h i
    have h2 : 2 ^ k < 2 ^ 12 := Nat.pow_lt_pow_right (by decide) hk
    have h3 : ((l.getD i 0).toNat ||| 2 ^ k) < 2 ^ 12 := Nat.or_lt_two_pow (by omega) h2
    omega
  · exact h a
theorem orb_bit {l : List Int} {i k : Nat} (h : i < l.length) (a b : Nat) : qS (orb l i k) a b = (qS l a b || (decide (a = i) && decide (k = b))) := by
  unfold qS
  rw [orb_get]
  by_cases ha : a = i
  · subst ha
    rw [if_pos ⟨rfl, h⟩]
    show (_ ||| 2 ^ k).testBit b = _
    rw [Nat.testBit_or, Nat.testBit_two_pow]
    simp
  · rw [if_neg (by simp [ha])]
    simp [ha]
theorem smTo_in {rs : List (List Int)} {n m : Nat} (h : ∀ j, j < m → r0 (rs.getD j []) < 12 ∧ r1 (rs.getD j []) < 12) : ∀ {j}, j ≤ m → maskIn (smTo rs n j)
  | 0, _ => fun i => by
    simp only [smTo, List.getD_eq_getElem?_getD, List.getElem?_replicate]
    split <;> simp
  | j + 1, hj => by
    have := h j (by omega)
    exact orb_in (orb_in (smTo_in h (by omega)) this.2) this.1
theorem smTo_bit {rs : List (List Int)} {n m : Nat} (h : ∀ j, j < m → r0 (rs.getD j []) < n ∧ r1 (rs.getD j []) < n) (a b : Nat) : ∀ {j}, j ≤ m →
    (qS (smTo rs n j) a b = true ↔ ∃ i, i < j ∧ ((a = r0 (rs.getD i []) ∧ r1 (rs.getD i []) = b) ∨ (a = r1 (rs.getD i []) ∧ r0 (rs.getD i []) = b)))
  | 0, _ => by
    constructor
    · intro hq
      have e : (smTo rs n 0).getD a 0 = 0 := by
        simp only [smTo, List.getD_eq_getElem?_getD, List.getElem?_replicate]
        split <;> simp
      unfold qS at hq
      rw [e] at hq
      simp at hq
    · rintro ⟨i, hi, _⟩; omega
  | j + 1, hj => by
    have h1 := h j (by omega)
    have ih := smTo_bit h a b (j := j) (by omega)
    have hl := smTo_length rs n j
    rw [smTo, orb_bit (by rw [orb_length, hl]; exact h1.2), orb_bit (by rw [hl]; exact h1.1)]
    simp only [Bool.or_eq_true, Bool.and_eq_true, decide_eq_true_eq, ih]
    constructor
    · rintro ((⟨i, hi, h⟩ | h) | h)
      · exact ⟨i, by omega, h⟩
      · exact ⟨j, by omega, .inl h⟩
      · exact ⟨j, by omega, .inr h⟩
    · rintro ⟨i, hi, h⟩
      by_cases e : i = j
      · subst e
        rcases h with h | h
        · exact .inl (.inr h)
        · exact .inr h
      · exact .inl (.inl ⟨i, by omega, h⟩)
theorem prIn_has {p : Nat → Nat → Bool} {i k : Nat} (h : i < k) (hp : p i k = true) : ∀ {d}, k < d → [(i : Int), (k : Int)] ∈ prIn p i d
  | 0, hd => by omega
  | d + 1, hd => by
    rw [prIn, List.mem_append]
    by_cases e : k = d
    · subst e; right; rw [if_pos ⟨h, hp⟩]; simp
    · left; exact prIn_has h hp (by omega)
theorem prTo_has {p : Nat → Nat → Bool} {n i k : Nat} (h : i < k) (hk : k < n) (hp : p i k = true) : ∀ {a}, i < a → [(i : Int), (k : Int)] ∈ prTo p n a
  | 0, ha => by omega
  | a + 1, ha => by
    rw [prTo, List.mem_append]
    by_cases e : i = a
    · subst e; right; exact prIn_has h hp hk
    · left; exact prTo_has h hk hp (by omega)
theorem pair_at {p : Nat → Nat → Bool} {n j : Nat} (h : j < (prTo p n n).length) : r0 ((prTo p n n).getD j []) < r1 ((prTo p n n).getD j []) ∧ r1 ((prTo p n n).getD j []) < n ∧ p (r0 ((prTo p n n).getD j [])) (r1 ((prTo p n n).getD j [])) = true := by
  obtain ⟨i, k, _, h2, h3, h4, h5⟩ := prTo_mem (List.getElem_mem h)
  have e : (prTo p n n).getD j [] = [(i : Int), (k : Int)] := by rw [List.getD_eq_getElem?_getD, List.getElem?_eq_getElem h]; exact h5
  rw [e]
  exact ⟨by simpa [r0, r1] using h2, by simpa [r1] using h3, by simpa [r0, r1] using h4⟩
theorem pair_has {p : Nat → Nat → Bool} {n i k : Nat} (h : i < k) (hk : k < n) (hp : p i k = true) : ∃ j, j < (prTo p n n).length ∧ r0 ((prTo p n n).getD j []) = i ∧ r1 ((prTo p n n).getD j []) = k := by
  obtain ⟨j, hj, e⟩ := List.getElem_of_mem (prTo_has h hk hp (a := n) (by omega))
  refine ⟨j, hj, ?_⟩
  have e2 : (prTo p n n).getD j [] = [(i : Int), (k : Int)] := by rw [List.getD_eq_getElem?_getD, List.getElem?_eq_getElem hj]; exact e
  rw [e2]
  simp [r0, r1]
/-- All sets of a good transition's conflicts. -/
def smAll (p : Nat → Nat → Bool) (n : Nat) : List Int := smTo (prTo p n n) n (prTo p n n).length
theorem smAll_in {p : Nat → Nat → Bool} {n : Nat} (hn : n ≤ 12) {j : Nat} (hj : j ≤ (prTo p n n).length) : maskIn (smTo (prTo p n n) n j) :=
  smTo_in (m := (prTo p n n).length) (fun j hj => by have := pair_at hj; omega) hj
theorem smAll_bit {p : Nat → Nat → Bool} {n i k : Nat} (h : i < k) (hk : k < n) : qS (smAll p n) k i = p i k := by
  have hb := smTo_bit (rs := prTo p n n) (n := n) (m := (prTo p n n).length) (fun j hj => by have := pair_at hj; omega) k i (Nat.le_refl _)
  rw [Bool.eq_iff_iff]
  refine hb.trans ⟨?_, fun hp => ?_⟩
  · rintro ⟨j, hj, h1 | h1⟩
    · have := pair_at hj; omega
    · have := (pair_at hj).2.2
      rwa [h1.2, ← h1.1] at this
  · obtain ⟨j, hj, h1, h2⟩ := pair_has h hk hp
    exact ⟨j, hj, .inr ⟨h2.symm, h1⟩⟩
/-- No pair lies within a set. -/
def frTo (rs : List (List Int)) (s : Nat) : Nat → Bool
  | 0 => true
  | j + 1 => if s.testBit (r0 (rs.getD j [])) = true ∧ s.testBit (r1 (rs.getD j [])) = true then false else frTo rs s j
theorem frTo_iff {rs : List (List Int)} {s : Nat} : ∀ {j}, frTo rs s j = true ↔ ∀ i, i < j → ¬ (s.testBit (r0 (rs.getD i [])) = true ∧ s.testBit (r1 (rs.getD i [])) = true)
  | 0 => ⟨fun _ i hi => absurd hi (by omega), fun _ => rfl⟩
  | j + 1 => by
    rw [frTo]
    split
    · rename_i h
      exact ⟨fun h => (by cases h), fun h2 => absurd h (h2 j (by omega))⟩
    · rename_i h
      rw [frTo_iff]
      constructor
      · intro h2 i hi
        by_cases e : i = j
        · subst e; exact h
        · exact h2 i (by omega)
      · intro h2 i hi; exact h2 i (by omega)
theorem fr_free (p : Nat → Nat → Bool) (n s : Nat) : frTo (prTo p n n) s (prTo p n n).length = freeS (qS (smAll p n)) n s := by
  rw [Bool.eq_iff_iff, frTo_iff, freeS_iff]
  constructor
  · intro h i k hik hk hi hk2
    rw [smAll_bit hik hk]
    cases hp : p i k with
    | false => rfl
    | true =>
      obtain ⟨j, hj, h1, h2⟩ := pair_has hik hk hp
      exact absurd ⟨by rw [h1]; exact hi, by rw [h2]; exact hk2⟩ (h j hj)
  · intro h j hj hc
    have hp := pair_at hj
    have := h _ _ hp.1 hp.2.1 hc.1 hc.2
    rw [smAll_bit hp.1 hp.2.1, hp.2.2] at this
    cases this
theorem set_any {l : List Int} {T : List Nat} {f : Nat} : ((l.getD f 0).toNat &&& maskOf T = 0) ↔ T.any (qS l f) = false := by
  constructor
  · intro h
    rw [Bool.eq_false_iff]
    intro ha
    obtain ⟨j, hj, hq⟩ := List.any_eq_true.1 ha
    have : ((l.getD f 0).toNat &&& maskOf T).testBit j = true := by
      rw [Nat.testBit_and, Bool.and_eq_true]
      exact ⟨hq, (maskOf_bit T j).2 hj⟩
    rw [h] at this
    simp at this
  · intro h
    apply Nat.eq_of_testBit_eq
    intro j
    rw [Nat.testBit_and, Nat.zero_testBit, Bool.and_eq_false_iff]
    cases hm : (maskOf T).testBit j with
    | false => exact .inr rfl
    | true =>
      have := List.any_eq_false.1 h j ((maskOf_bit T j).1 hm)
      left
      simpa [qS] using this
/-- The list as the program holds it. -/
def nats (l : List Nat) : List Int := l.map fun x : Nat => (x : Int)
theorem nats_length (l : List Nat) : (nats l).length = l.length := by simp [nats]
theorem nats_get (l : List Nat) (i : Nat) : (nats l).getD i 0 = (l.getD i 0 : Nat) := by
  simp only [nats, List.getD_eq_getElem?_getD, List.getElem?_map]
  cases l[i]? <;> rfl
theorem setL_more {n m s : Nat} (hs : s < 2 ^ n) (hm : n ≤ m) : setL m s = setL n s := by
  refine asc_ext (setL_asc _ _) (setL_asc _ _) fun x => ?_
  rw [setL_mem, setL_mem]
  constructor
  · rintro ⟨_, h⟩
    refine ⟨?_, h⟩
    rcases Nat.lt_or_ge x n with h1 | h1
    · exact h1
    · rw [Nat.testBit_lt_two_pow (Nat.lt_of_lt_of_le hs (Nat.pow_le_pow_right (by decide) h1))] at h; cases h
  · rintro ⟨h1, h⟩; exact ⟨by omega, h⟩
theorem setL_succ (n s : Nat) : setL (n + 1) s = setL n s ++ (if s.testBit n = true then [n] else []) := by
  unfold setL
  rw [List.range_succ, List.filter_append]
  congr 1
  by_cases h : s.testBit n = true <;> simp [h]
theorem setL_len (n s : Nat) : (setL n s).length ≤ n := by
  unfold setL
  have := List.length_filter_le (fun i => s.testBit i) (List.range n)
  simpa using this
/-- One list comes before another one: the first place at which they differ. -/
theorem bf_at : ∀ {k : Nat} {a b : List Nat}, a.length = b.length → k ≤ a.length → (∀ j, j < k → a.getD j 0 = b.getD j 0) → (k = a.length → bf a b = false) ∧ (k < a.length → a.getD k 0 ≠ b.getD k 0 → bf a b = decide (a.getD k 0 < b.getD k 0))
  | _, [], [], _, hk, _ => ⟨fun _ => rfl, fun h => absurd h (by simp)⟩
  | 0, x :: a, y :: b, hl, _, _ => by
    refine ⟨fun h => by simp at h, fun _ hne => ?_⟩
    simp at hne ⊢
    simp [bf, hne]
  | k + 1, x :: a, y :: b, hl, hk, h => by
    have h0 : x = y := h 0 (by omega)
    subst h0
    have ih := bf_at (k := k) (a := a) (b := b) (by simpa using hl) (by simpa using hk) (fun j hj => by simpa using h (j + 1) (by omega))
    refine ⟨fun he => ?_, fun hlt hne => ?_⟩
    · have := ih.1 (by simpa using he)
      simp [bf, this]
    · have := ih.2 (by simpa using hlt) (by simpa using hne)
      simp [bf, this]
end Go.Proofs.Ytpikhkdgohapeaa
