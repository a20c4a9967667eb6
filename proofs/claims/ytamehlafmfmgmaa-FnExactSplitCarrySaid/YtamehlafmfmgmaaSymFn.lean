/- A merge by rotation: where the two parts are cut, and what comes of it. Plain laws of lists. Without conditions. -/
import Derived.Test.YtamehlafmfmgmaaRotFn
namespace Go.Proofs.Ytamehlafmfmgmaa
open Go.RowKit

def carOk (c : Car) : Prop := caB c.1 c.2.1 c.2.2.1 c.2.2.2 = true
def AllOk (l : List Car) : Prop := ∀ c ∈ l, carOk c
theorem allOk_app {l m : List Car} : AllOk (l ++ m) ↔ AllOk l ∧ AllOk m := by
  unfold AllOk
  constructor
  · intro h; exact ⟨fun c hc => h c (List.mem_append_left _ hc), fun c hc => h c (List.mem_append_right _ hc)⟩
  · rintro ⟨h1, h2⟩ c hc
    rcases List.mem_append.1 hc with hc | hc
    · exact h1 c hc
    · exact h2 c hc
theorem allOk_perm {l m : List Car} (h : l.Perm m) (hm : AllOk m) : AllOk l := fun c hc => hm c (h.mem_iff.1 hc)
theorem getD_mem {l : List Car} {i : Nat} (h : i < l.length) : l.getD i c0 ∈ l := by
  have : l.getD i c0 = l[i] := by simp [List.getD, h]
  rw [this]; exact List.getElem_mem _
theorem allOk_exch {l : List Car} {i j : Nat} (h : AllOk l) (hi : i < l.length) (hj : j < l.length) : AllOk (exch l i j) := by
  intro c hc
  unfold exch at hc
  rcases List.mem_or_eq_of_mem_set hc with hc | rfl
  · rcases List.mem_or_eq_of_mem_set hc with hc | rfl
    · exact h c hc
    · exact h _ (getD_mem hj)
  · exact h _ (getD_mem hi)
theorem getD_at (p : List Car) (x : Car) (s : List Car) {i : Nat} (hi : i = p.length) : (p ++ x :: s).getD i c0 = x := by
  subst hi; simp [List.getD]
theorem part_two {l : List Car} {k : Nat} (h : k ≤ l.length) : ∃ u v : List Car, l = u ++ v ∧ u.length = k := ⟨l.take k, l.drop k, (List.take_append_drop k l).symm, by simp; omega⟩
theorem last_of {l : List Car} (h : 0 < l.length) : ∃ u x, l = u ++ [x] := ⟨l.dropLast, l.getLast (by intro e; rw [e] at h; simp at h), (List.dropLast_concat_getLast _).symm⟩
theorem first_of {l : List Car} (h : 0 < l.length) : ∃ x v, l = x :: v := by
  cases l with
  | nil => simp at h
  | cons x v => exact ⟨x, v, rfl⟩
theorem before_nil_left (m : List Car) : Before [] m := fun x hx => by simp at hx
theorem before_nil_right (l : List Car) : Before l [] := fun x _ y hy => by simp at hy
theorem weak_nil : Weak [] := List.Pairwise.nil
theorem weak_one (x : Car) : Weak [x] := List.pairwise_singleton _ _
/-- Where the search begins and ends. -/
def lo0 (a m b : Nat) : Nat := if m > (a + b) / 2 then (a + b) / 2 + m - b else a
def hi0 (a m b : Nat) : Nat := if m > (a + b) / 2 then (a + b) / 2 else m
theorem lo0_hi0 {a m b : Nat} (h1 : a < m) (h2 : m < b) : a ≤ lo0 a m b ∧ lo0 a m b ≤ hi0 a m b ∧ hi0 a m b ≤ m ∧ hi0 a m b ≤ (a + b) / 2 ∧ m ≤ (a + b) / 2 + m - hi0 a m b ∧ (a + b) / 2 + m - lo0 a m b ≤ b ∧ b ≤ (a + b) / 2 + m ∨ m ≤ (a + b) / 2 ∧ lo0 a m b = a ∧ hi0 a m b = m := by
  unfold lo0 hi0
  by_cases h : m > (a + b) / 2
  · rw [if_pos h, if_pos h]; omega
  · rw [if_neg h, if_neg h]; omega
/-- The parts at the place that the search has found. -/
theorem sym_split {p x y s l : List Car} {a m b st : Nat} (hl : l = p ++ (x ++ (y ++ s))) (ha : p.length = a) (hm : a + x.length = m) (hb : m + y.length = b) (hx : 0 < x.length) (hy : 0 < y.length) (wx : Weak x) (wy : Weak y)
    (h1 : lo0 a m b ≤ st) (h2 : st ≤ hi0 a m b) (f1 : lo0 a m b < st → ¬ carLt (l.getD ((a + b) / 2 + m - 1 - (st - 1)) c0) (l.getD (st - 1) c0))
    (f2 : st < hi0 a m b → carLt (l.getD ((a + b) / 2 + m - 1 - st) c0) (l.getD st c0)) :
    ∃ A B C D, x = A ++ B ∧ y = C ++ D ∧ A.length = st - a ∧ C.length = (a + b) / 2 + m - st - m ∧ Before A D ∧ Before C B ∧ a ≤ st ∧ st ≤ m ∧ st ≤ (a + b) / 2 ∧ m ≤ (a + b) / 2 + m - st ∧ (a + b) / 2 + m - st ≤ b ∧ (a + b) / 2 ≤ (a + b) / 2 + m - st := by
  have bounds : a ≤ st ∧ st ≤ m ∧ st ≤ (a + b) / 2 ∧ m ≤ (a + b) / 2 + m - st ∧ (a + b) / 2 + m - st ≤ b := by
    unfold lo0 at h1
    unfold hi0 at h2
    by_cases h : m > (a + b) / 2
    · rw [if_pos h] at h1 h2; omega
    · rw [if_neg h] at h1 h2; omega
  obtain ⟨b1, b2, b3, b4, b5⟩ := bounds
  obtain ⟨A, B, eX, hA⟩ := part_two (l := x) (k := st - a) (by omega)
  obtain ⟨C, D, eY, hC⟩ := part_two (l := y) (k := (a + b) / 2 + m - st - m) (by omega)
  refine ⟨A, B, C, D, eX, eY, hA, hC, ?_, ?_, b1, b2, b3, b4, b5, by omega⟩
  · -- A before D
    by_cases hA0 : 0 < A.length
    · by_cases hD0 : 0 < D.length
      · obtain ⟨A', u, rfl⟩ := last_of hA0
        obtain ⟨v, D', rfl⟩ := first_of hD0
        subst eX eY
        have wA : Weak (A' ++ [u]) := (weak_two.1 wx).1
        have wD : Weak (v :: D') := (weak_two.1 wy).2.1
        have lens : (A' ++ [u]).length = A'.length + 1 := by simp
        have leny : (C ++ v :: D').length = C.length + (D'.length + 1) := by simp
        have hlt : lo0 a m b < st := by
          unfold lo0 at h1 ⊢
          by_cases h : m > (a + b) / 2
          · rw [if_pos h] at h1 ⊢; omega
          · rw [if_neg h] at h1 ⊢; omega
        have g1 : l.getD ((a + b) / 2 + m - 1 - (st - 1)) c0 = v := by
          rw [hl, show p ++ ((A' ++ [u]) ++ B ++ ((C ++ v :: D') ++ s)) = (p ++ ((A' ++ [u]) ++ B ++ C)) ++ v :: (D' ++ s) by simp]
          apply getD_at
          simp only [List.length_append, List.length_cons, List.length_nil] at hm hA hC lens ⊢
          omega
        have g2 : l.getD (st - 1) c0 = u := by
          rw [hl, show p ++ ((A' ++ [u]) ++ B ++ ((C ++ v :: D') ++ s)) = (p ++ A') ++ u :: (B ++ ((C ++ v :: D') ++ s)) by simp]
          apply getD_at
          simp only [List.length_append, List.length_cons, List.length_nil] at hA ⊢
          omega
        have := f1 hlt
        rw [g1, g2] at this
        exact before_ends wA wD this
      · obtain rfl : D = [] := List.length_eq_zero_iff.1 (by omega)
        exact before_nil_right _
    · obtain rfl : A = [] := List.length_eq_zero_iff.1 (by omega)
      exact before_nil_left _
  · -- C before B
    by_cases hC0 : 0 < C.length
    · by_cases hB0 : 0 < B.length
      · obtain ⟨C', u, rfl⟩ := last_of hC0
        obtain ⟨v, B', rfl⟩ := first_of hB0
        subst eX eY
        have wC : Weak (C' ++ [u]) := (weak_two.1 wy).1
        have wB : Weak (v :: B') := (weak_two.1 wx).2.1
        have lenx : (A ++ v :: B').length = A.length + (B'.length + 1) := by simp
        have lenC : (C' ++ [u]).length = C'.length + 1 := by simp
        have hlt : st < hi0 a m b := by
          unfold hi0 at h2 ⊢
          by_cases h : m > (a + b) / 2
          · rw [if_pos h] at h2 ⊢; omega
          · rw [if_neg h] at h2 ⊢; omega
        have g1 : l.getD ((a + b) / 2 + m - 1 - st) c0 = u := by
          rw [hl, show p ++ ((A ++ v :: B') ++ ((C' ++ [u]) ++ D ++ s)) = (p ++ (A ++ v :: B') ++ C') ++ u :: (D ++ s) by simp]
          apply getD_at
          simp only [List.length_append, List.length_cons, List.length_nil] at hm hA hC ⊢
          omega
        have g2 : l.getD st c0 = v := by
          rw [hl, show p ++ ((A ++ v :: B') ++ ((C' ++ [u]) ++ D ++ s)) = (p ++ A) ++ v :: (B' ++ ((C' ++ [u]) ++ D ++ s)) by simp]
          apply getD_at
          simp only [List.length_append] at hA ⊢
          omega
        have := f2 hlt
        rw [g1, g2] at this
        exact before_ends wC wB (carLt_asym this)
      · obtain rfl : B = [] := List.length_eq_zero_iff.1 (by omega)
        exact before_nil_right _
    · obtain rfl : C = [] := List.length_eq_zero_iff.1 (by omega)
      exact before_nil_left _
end Go.Proofs.Ytamehlafmfmgmaa
