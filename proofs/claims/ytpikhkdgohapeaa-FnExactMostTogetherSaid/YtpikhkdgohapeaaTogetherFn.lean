/- The longest list of performers without a conflict among them, found by going on and by looking at all sets: both ways find the same. Plain laws, without conditions. -/
import Derived.Test.YtpikhkdgohapeaaMem
namespace Go.Proofs.Ytpikhkdgohapeaa
/-- A list comes before another one of the same length. -/
def bf : List Nat → List Nat → Bool
  | x :: a, y :: b => decide (x < y) || (x == y && bf a b)
  | _, _ => false
/-- A list is at least as good: longer, or as long and not behind. -/
def bst (l m : List Nat) : Prop := m.length < l.length ∨ (m.length = l.length ∧ (l = m ∨ bf l m = true))
theorem bf_total : ∀ {l m : List Nat}, l.length = m.length → l = m ∨ bf l m = true ∨ bf m l = true
  | [], [], _ => .inl rfl
  | x :: a, y :: b, h => by
    simp only [List.length_cons, Nat.add_right_cancel_iff] at h
    rcases Nat.lt_trichotomy x y with h1 | rfl | h1
    · exact .inr (.inl (by simp [bf, h1]))
    · rcases bf_total h with rfl | h2 | h2
      · exact .inl rfl
      · exact .inr (.inl (by simp [bf, h2]))
      · exact .inr (.inr (by simp [bf, h2]))
    · exact .inr (.inr (by simp [bf, h1]))
theorem bf_irr : ∀ {l m : List Nat}, bf l m = true → bf m l = true → False
  | [], _, h, _ => by simp [bf] at h
  | _ :: _, [], h, _ => by simp [bf] at h
  | x :: a, y :: b, h, k => by
    simp only [bf, Bool.or_eq_true, decide_eq_true_eq, Bool.and_eq_true, beq_iff_eq] at h k
    rcases h with h | ⟨rfl, h⟩
    · rcases k with k | ⟨rfl, _⟩ <;> omega
    · rcases k with k | ⟨_, k⟩
      · omega
      · exact bf_irr h k
theorem bf_trans : ∀ {l m o : List Nat}, bf l m = true → bf m o = true → bf l o = true
  | [], _, _, h, _ => by simp [bf] at h
  | _ :: _, [], _, h, _ => by simp [bf] at h
  | _ :: _, _ :: _, [], _, k => by simp [bf] at k
  | x :: a, y :: b, z :: c, h, k => by
    simp only [bf, Bool.or_eq_true, decide_eq_true_eq, Bool.and_eq_true, beq_iff_eq] at h k ⊢
    rcases h with h | ⟨rfl, h⟩
    · rcases k with k | ⟨rfl, _⟩
      · left; omega
      · left; omega
    · rcases k with k | ⟨rfl, k⟩
      · left; omega
      · right; exact ⟨rfl, bf_trans h k⟩
theorem bst_refl (l : List Nat) : bst l l := .inr ⟨rfl, .inl rfl⟩
theorem bst_trans {l m o : List Nat} (h : bst l m) (k : bst m o) : bst l o := by
  rcases h with h | ⟨h1, h2⟩
  · rcases k with k | ⟨k1, _⟩
    · left; omega
    · left; omega
  · rcases k with k | ⟨k1, k2⟩
    · left; omega
    · right
      refine ⟨by omega, ?_⟩
      rcases h2 with rfl | h2
      · exact k2
      · rcases k2 with rfl | k2
        · exact .inr h2
        · exact .inr (bf_trans h2 k2)
theorem bst_anti {l m : List Nat} (h : bst l m) (k : bst m l) : l = m := by
  rcases h with h | ⟨h1, h2⟩
  · rcases k with k | ⟨k1, _⟩ <;> omega
  · rcases h2 with h2 | h2
    · exact h2
    · rcases k with k | ⟨k1, k2⟩
      · omega
      · rcases k2 with k2 | k2
        · exact k2.symm
        · exact (bf_irr h2 k2).elim
/-- l is better than m, as the reference looks at it. -/
def better (l m : List Nat) : Bool := decide (m.length < l.length) || (decide (l.length = m.length) && bf l m)
theorem better_yes {l m : List Nat} (h : better l m = true) : bst l m := by
  simp only [better, Bool.or_eq_true, decide_eq_true_eq, Bool.and_eq_true] at h
  rcases h with h | ⟨h1, h2⟩
  · exact .inl h
  · exact .inr ⟨h1.symm, .inr h2⟩
theorem better_no {l m : List Nat} (h : better l m = false) : bst m l := by
  simp only [better, Bool.or_eq_false_iff, decide_eq_false_iff_not, Bool.and_eq_false_iff] at h
  obtain ⟨h1, h2⟩ := h
  rcases Nat.lt_trichotomy l.length m.length with k | k | k
  · exact .inl k
  · rcases h2 with h2 | h2
    · exact absurd k h2
    · rcases bf_total k with e | e | e
      · exact .inr ⟨k, .inl e.symm⟩
      · rw [h2] at e; cases e
      · exact .inr ⟨k, .inr e⟩
  · exact absurd k h1

/-- Performers from f on without a conflict among them or with those of T, in order. -/
structure okL (q : Nat → Nat → Bool) (n f : Nat) (T : List Nat) (l : List Nat) : Prop where
  asc : l.Pairwise (· < ·)
  free : l.Pairwise (fun i j => q j i = false)
  mem : ∀ i ∈ l, f ≤ i ∧ i < n ∧ T.any (q i) = false
def mtF (q : Nat → Nat → Bool) (n : Nat) : Nat → List Nat → List Nat
  | 0, _ => []
  | k + 1, T => if T.any (q (n - (k + 1))) = true then mtF q n k T
    else if (mtF q n k ((n - (k + 1)) :: T)).length + 1 < (mtF q n k T).length then mtF q n k T else (n - (k + 1)) :: mtF q n k ((n - (k + 1)) :: T)
theorem okL_more {q : Nat → Nat → Bool} {n f : Nat} {T l : List Nat} (h : okL q n (f + 1) T l) : okL q n f T l := ⟨h.asc, h.free, fun i hi => by have := h.mem i hi; exact ⟨by omega, this.2⟩⟩
theorem okL_cons {q : Nat → Nat → Bool} {n f : Nat} {T l : List Nat} (hf : f < n) (hT : T.any (q f) = false) (h : okL q n (f + 1) (f :: T) l) : okL q n f T (f :: l) := by
  have hm := h.mem
  refine ⟨List.pairwise_cons.2 ⟨fun i hi => by have := (hm i hi).1; omega, h.asc⟩, List.pairwise_cons.2 ⟨fun i hi => ?_, h.free⟩, fun i hi => ?_⟩
  · have := (hm i hi).2.2
    simp only [List.any_cons, Bool.or_eq_false_iff] at this
    exact this.1
  · rcases List.mem_cons.1 hi with rfl | hi
    · exact ⟨Nat.le_refl _, hf, hT⟩
    · have := hm i hi
      simp only [List.any_cons, Bool.or_eq_false_iff] at this
      exact ⟨by omega, this.2.1, this.2.2.2⟩
theorem okL_tail {q : Nat → Nat → Bool} {n f : Nat} {T l : List Nat} (h : okL q n f T (f :: l)) : okL q n (f + 1) (f :: T) l := by
  obtain ⟨a1, a2⟩ := List.pairwise_cons.1 h.asc
  obtain ⟨b1, b2⟩ := List.pairwise_cons.1 h.free
  refine ⟨a2, b2, fun i hi => ?_⟩
  have h1 := a1 i hi
  have h2 := b1 i hi
  have h3 := h.mem i (List.mem_cons_of_mem _ hi)
  refine ⟨by omega, h3.2.1, ?_⟩
  simp only [List.any_cons, Bool.or_eq_false_iff]
  exact ⟨h2, h3.2.2⟩
theorem okL_skip {q : Nat → Nat → Bool} {n f : Nat} {T l : List Nat} (h : okL q n f T l) (hne : ∀ i ∈ l, i ≠ f) : okL q n (f + 1) T l :=
  ⟨h.asc, h.free, fun i hi => by have := h.mem i hi; have := hne i hi; exact ⟨by omega, (h.mem i hi).2⟩⟩
theorem okL_head {q : Nat → Nat → Bool} {n f : Nat} {T l : List Nat} (h : okL q n f T l) : (∃ m, l = f :: m) ∨ okL q n (f + 1) T l := by
  match l, h with
  | [], h => exact .inr ⟨h.asc, h.free, by simp⟩
  | x :: m, h =>
    by_cases hx : x = f
    · subst hx; exact .inl ⟨m, rfl⟩
    · refine .inr (okL_skip h fun i hi => ?_)
      have a := List.pairwise_cons.1 h.asc
      have := (h.mem x (by simp)).1
      rcases List.mem_cons.1 hi with rfl | hi
      · exact hx
      · have := a.1 i hi; omega
theorem mt_best (q : Nat → Nat → Bool) (n : Nat) : ∀ k, k ≤ n → ∀ T, okL q n (n - k) T (mtF q n k T) ∧ ∀ l, okL q n (n - k) T l → bst (mtF q n k T) l
  | 0, _, T => by
    refine ⟨⟨List.Pairwise.nil, List.Pairwise.nil, by simp [mtF]⟩, fun l hl => ?_⟩
    match l, hl with
    | [], _ => exact bst_refl _
    | x :: m, hl => have := hl.mem x (by simp); omega
  | k + 1, hk, T => by
    obtain ⟨f, hf⟩ : ∃ f, n - (k + 1) = f := ⟨_, rfl⟩
    have hf1 : n - k = f + 1 := by omega
    have hfn : f < n := by omega
    have ih := mt_best q n k (by omega)
    rw [hf1] at ih
    rw [hf, mtF, hf]
    cases hT : T.any (q f) with
    | true =>
      rw [if_pos rfl]
      refine ⟨okL_more (ih T).1, fun l hl => (ih T).2 l ?_⟩
      rcases okL_head hl with ⟨m, rfl⟩ | h
      · have := (hl.mem f (by simp)).2.2
        rw [hT] at this; cases this
      · exact h
    | false =>
      rw [if_neg (by simp)]
      have ia := ih (f :: T)
      have ib := ih T
      obtain ⟨a, ha⟩ : ∃ a, mtF q n k (f :: T) = a := ⟨_, rfl⟩
      obtain ⟨b, hb⟩ : ∃ b, mtF q n k T = b := ⟨_, rfl⟩
      rw [ha] at ia
      rw [hb] at ib
      rw [ha, hb]
      by_cases hlen : a.length + 1 < b.length
      · rw [if_pos hlen]
        refine ⟨okL_more ib.1, fun l hl => ?_⟩
        rcases okL_head hl with ⟨m, rfl⟩ | h
        · have := ia.2 m (okL_tail hl)
          left
          rcases this with h | ⟨h, _⟩ <;> (simp; omega)
        · exact ib.2 l h
      · rw [if_neg hlen]
        refine ⟨okL_cons hfn hT ia.1, fun l hl => ?_⟩
        rcases okL_head hl with ⟨m, rfl⟩ | h
        · have := ia.2 m (okL_tail hl)
          rcases this with h | ⟨h, h2⟩
          · left; simp; omega
          · right
            refine ⟨by simp [h], ?_⟩
            rcases h2 with rfl | h2
            · exact .inl rfl
            · exact .inr (by simp [bf, h2])
        · have hb2 := ib.2 l h
          have hle : l.length ≤ b.length := by rcases hb2 with h | ⟨h, _⟩ <;> omega
          by_cases he : l.length = a.length + 1
          · right
            refine ⟨by simp [he], .inr ?_⟩
            match l, h, he with
            | [], _, he => simp at he
            | x :: m, h, _ =>
              have := (h.mem x (by simp)).1
              simp [bf]; left; omega
          · left; simp; omega
theorem asc_ext : ∀ {l m : List Nat}, l.Pairwise (· < ·) → m.Pairwise (· < ·) → (∀ x, x ∈ l ↔ x ∈ m) → l = m
  | [], [], _, _, _ => rfl
  | [], y :: m, _, _, h => by have := (h y).2 (by simp); simp at this
  | x :: l, [], _, _, h => by have := (h x).1 (by simp); simp at this
  | x :: l, y :: m, hl, hm, h => by
    obtain ⟨a1, a2⟩ := List.pairwise_cons.1 hl
    obtain ⟨b1, b2⟩ := List.pairwise_cons.1 hm
    have e : x = y := by
      rcases List.mem_cons.1 ((h x).1 (by simp)) with e | hx
      · exact e
      · rcases List.mem_cons.1 ((h y).2 (by simp)) with e | hy
        · exact e.symm
        · have := b1 x hx; have := a1 y hy; omega
    subst e
    rw [asc_ext a2 b2 fun z => ?_]
    constructor
    · intro hz
      rcases List.mem_cons.1 ((h z).1 (List.mem_cons_of_mem _ hz)) with e | hz'
      · have := a1 z hz; omega
      · exact hz'
    · intro hz
      rcases List.mem_cons.1 ((h z).2 (List.mem_cons_of_mem _ hz)) with e | hz'
      · have := b1 z hz; omega
      · exact hz'
/-- The members of a set of numbers below n. -/
def setL (n s : Nat) : List Nat := (List.range n).filter fun i => s.testBit i
theorem setL_mem {n s i : Nat} : i ∈ setL n s ↔ i < n ∧ s.testBit i = true := by simp [setL]
theorem setL_asc (n s : Nat) : (setL n s).Pairwise (· < ·) := List.Pairwise.filter _ List.pairwise_lt_range
def maskOf : List Nat → Nat
  | [] => 0
  | i :: l => maskOf l ||| 2 ^ i
theorem maskOf_bit (l : List Nat) (j : Nat) : (maskOf l).testBit j = true ↔ j ∈ l := by
  induction l with
  | nil => simp [maskOf]
  | cons i l ih =>
    rw [maskOf, Nat.testBit_or, Nat.testBit_two_pow, Bool.or_eq_true, ih, decide_eq_true_eq, List.mem_cons]
    constructor
    · rintro (h | h)
      · exact .inr h
      · exact .inl h.symm
    · rintro (h | h)
      · exact .inr h.symm
      · exact .inl h
theorem maskOf_lt {n : Nat} {l : List Nat} (h : ∀ i ∈ l, i < n) : maskOf l < 2 ^ n := by
  induction l with
  | nil => simp [maskOf, Nat.two_pow_pos]
  | cons i l ih =>
    rw [maskOf]
    exact Nat.or_lt_two_pow (ih fun j hj => h j (List.mem_cons_of_mem _ hj)) (Nat.pow_lt_pow_right (by decide) (h i (by simp)))
theorem setL_mask {n : Nat} {l : List Nat} (ha : l.Pairwise (· < ·)) (h : ∀ i ∈ l, i < n) : setL n (maskOf l) = l :=
  asc_ext (setL_asc _ _) ha fun x => by
    rw [setL_mem, maskOf_bit]
    exact ⟨fun h => h.2, fun hx => ⟨h x hx, hx⟩⟩
/-- There is no conflict within a set. -/
def freeS (q : Nat → Nat → Bool) (n s : Nat) : Bool := (List.range n).all fun i => (List.range n).all fun k => !(decide (i < k) && s.testBit i && s.testBit k && q k i)
theorem freeS_iff {q : Nat → Nat → Bool} {n s : Nat} : freeS q n s = true ↔ ∀ i k, i < k → k < n → s.testBit i = true → s.testBit k = true → q k i = false := by
  simp only [freeS, List.all_eq_true, List.mem_range, Bool.not_eq_true', Bool.and_eq_false_iff, decide_eq_false_iff_not]
  constructor
  · intro h i k hik hkn hi hk
    rcases h i (by omega) k hkn with ((h1 | h1) | h1) | h1
    · exact absurd hik h1
    · rw [hi] at h1; cases h1
    · rw [hk] at h1; cases h1
    · exact h1
  · intro h i hin k hkn
    by_cases hik : i < k
    · cases hi : s.testBit i with
      | false => exact .inl (.inl (.inr rfl))
      | true =>
        cases hk : s.testBit k with
        | false => exact .inl (.inr rfl)
        | true => exact .inr (h i k hik hkn hi hk)
    · exact .inl (.inl (.inl hik))
theorem ok_set {q : Nat → Nat → Bool} {n s : Nat} (h : freeS q n s = true) : okL q n 0 [] (setL n s) := by
  refine ⟨setL_asc _ _, ?_, fun i hi => ⟨Nat.zero_le _, (setL_mem.1 hi).1, rfl⟩⟩
  have hf := freeS_iff.1 h
  refine (List.Pairwise.and_mem.1 (setL_asc n s)).imp ?_
  intro a b hab
  exact hf a b hab.2.2 (setL_mem.1 hab.2.1).1 (setL_mem.1 hab.1).2 (setL_mem.1 hab.2.1).2
theorem pair_of {R : Nat → Nat → Prop} : ∀ {l : List Nat}, l.Pairwise (· < ·) → l.Pairwise R → ∀ i k, i ∈ l → k ∈ l → i < k → R i k
  | [], _, _, _, _, hi, _, _ => by simp at hi
  | x :: l, ha, hR, i, k, hi, hk, hik => by
    obtain ⟨a1, a2⟩ := List.pairwise_cons.1 ha
    obtain ⟨b1, b2⟩ := List.pairwise_cons.1 hR
    rcases List.mem_cons.1 hi with hi' | hi'
    · subst hi'
      rcases List.mem_cons.1 hk with hk' | hk'
      · omega
      · exact b1 k hk'
    · rcases List.mem_cons.1 hk with hk' | hk'
      · subst hk'
        have := a1 i hi'; omega
      · exact pair_of a2 b2 i k hi' hk' hik
theorem free_mask {q : Nat → Nat → Bool} {n : Nat} {l : List Nat} (h : okL q n 0 [] l) : freeS q n (maskOf l) = true := by
  refine freeS_iff.2 fun i k hik hkn hi hk => ?_
  exact pair_of h.asc h.free i k ((maskOf_bit l i).1 hi) ((maskOf_bit l k).1 hk) hik
/-- The reference's search: all sets, one behind the other. -/
def mtS (q : Nat → Nat → Bool) (n : Nat) : Nat → List Nat
  | 0 => []
  | s + 1 => if freeS q n s = true ∧ better (setL n s) (mtS q n s) = true then setL n s else mtS q n s
theorem mtS_ok (q : Nat → Nat → Bool) (n : Nat) : ∀ s, okL q n 0 [] (mtS q n s) ∧ ∀ r, r < s → freeS q n r = true → bst (mtS q n s) (setL n r)
  | 0 => ⟨⟨List.Pairwise.nil, List.Pairwise.nil, by simp [mtS]⟩, fun r h => absurd h (by omega)⟩
  | s + 1 => by
    obtain ⟨h1, h2⟩ := mtS_ok q n s
    rw [mtS]
    split
    · rename_i hc
      have hb := better_yes hc.2
      refine ⟨ok_set hc.1, fun r hr hf => ?_⟩
      rcases Nat.lt_succ_iff_lt_or_eq.1 hr with h | rfl
      · exact bst_trans hb (h2 r h hf)
      · exact bst_refl _
    · rename_i hc
      refine ⟨h1, fun r hr hf => ?_⟩
      rcases Nat.lt_succ_iff_lt_or_eq.1 hr with h | rfl
      · exact h2 r h hf
      · have : better (setL n r) (mtS q n r) = false := by
          cases hb : better (setL n r) (mtS q n r) with
          | false => rfl
          | true => exact absurd ⟨hf, hb⟩ hc
        exact better_no this
/-- Both searches find the same list. -/
theorem mt_same (q : Nat → Nat → Bool) (n : Nat) : mtS q n (2 ^ n) = mtF q n n [] := by
  have hF := mt_best q n n (Nat.le_refl _) []
  rw [Nat.sub_self] at hF
  have hS := mtS_ok q n (2 ^ n)
  refine bst_anti ?_ (hF.2 _ hS.1)
  have hm : ∀ i ∈ mtF q n n [], i < n := fun i hi => (hF.1.mem i hi).2.1
  have := hS.2 (maskOf (mtF q n n [])) (maskOf_lt hm) (free_mask hF.1)
  rwa [setL_mask hF.1.asc hm] at this
end Go.Proofs.Ytpikhkdgohapeaa
