/- Two elements change places, two ranges do, two neighbouring parts do: plain laws of lists. Without conditions. -/
import Derived.Test.YtamehlafmfmgmaaMergeLaw
namespace Go.Proofs.Ytamehlafmfmgmaa
open Go.RowKit

abbrev c0 : Car := (0, 0, 0, 0)
def exch (l : List Car) (i j : Nat) : List Car := (l.set i (l.getD j c0)).set j (l.getD i c0)
theorem exch_length (l : List Car) (i j : Nat) : (exch l i j).length = l.length := by simp [exch]
theorem exch_get {l : List Car} {i j : Nat} (hi : i < l.length) (hj : j < l.length) (t : Nat) : (exch l i j)[t]? = if t = j then l[i]? else if t = i then l[j]? else l[t]? := by
  have e1 : some (l.getD i c0) = l[i]? := by simp [List.getD, hi]
  have e2 : some (l.getD j c0) = l[j]? := by simp [List.getD, hj]
  simp only [exch, List.getElem?_set, List.length_set]
  by_cases h1 : j = t
  · subst h1; simp [hj, hi]
  · have h1' : ¬ t = j := fun e => h1 e.symm
    by_cases h2 : i = t
    · subst h2; simp [h1, h1', hi, hj]
    · have h2' : ¬ t = i := fun e => h2 e.symm
      simp [h1, h1', h2, h2']
theorem exch_next (u v : List Car) (x y : Car) : exch (u ++ y :: x :: v) (u.length + 1) u.length = u ++ x :: y :: v ∧ exch (u ++ y :: x :: v) u.length (u.length + 1) = u ++ x :: y :: v := by
  constructor <;> simp [exch]
/-- k elements from a on change places with those from b on. -/
def exchR (l : List Car) (a b : Nat) : Nat → List Car
  | 0 => l
  | k + 1 => exch (exchR l a b k) (a + k) (b + k)
theorem exchR_length (l : List Car) (a b : Nat) : ∀ k, (exchR l a b k).length = l.length
  | 0 => rfl
  | k + 1 => by rw [exchR, exch_length, exchR_length l a b k]
theorem exchR_get {l : List Car} {a b : Nat} : ∀ k, a + k ≤ b → b + k ≤ l.length → ∀ t, (exchR l a b k)[t]? = if a ≤ t ∧ t < a + k then l[t - a + b]? else if b ≤ t ∧ t < b + k then l[t - b + a]? else l[t]?
  | 0, _, _, t => by
    rw [exchR, if_neg (by omega), if_neg (by omega)]
  | k + 1, h1, h2, t => by
    have ih := exchR_get (l := l) (a := a) (b := b) k (by omega) (by omega)
    rw [exchR, exch_get (by rw [exchR_length]; omega) (by rw [exchR_length]; omega), ih, ih, ih]
    by_cases t1 : t = b + k
    · subst t1
      rw [if_pos rfl, if_neg (by omega), if_neg (by omega), if_neg (by omega), if_pos (by omega), show b + k - b + a = a + k by omega]
    · rw [if_neg t1]
      by_cases t2 : t = a + k
      · subst t2
        rw [if_pos rfl, if_neg (by omega), if_neg (by omega), if_pos (by omega), show a + k - a + b = b + k by omega]
      · rw [if_neg t2]
        by_cases t3 : a ≤ t ∧ t < a + k
        · rw [if_pos t3, if_pos (by omega)]
        · rw [if_neg t3]
          by_cases t4 : b ≤ t ∧ t < b + k
          · rw [if_pos t4, if_neg (by omega), if_pos (by omega)]
          · rw [if_neg t4, if_neg (by omega), if_neg (by omega)]
/-- Those from m to b come ahead of those from a to m. -/
def rotd (l : List Car) (a m b : Nat) : List Car := l.take a ++ ((l.drop m).take (b - m) ++ ((l.drop a).take (m - a) ++ l.drop b))
theorem rotd_length {l : List Car} {a m b : Nat} (h1 : a ≤ m) (h2 : m ≤ b) (h3 : b ≤ l.length) : (rotd l a m b).length = l.length := by
  simp only [rotd, List.length_append, List.length_take, List.length_drop]; omega
theorem rotd_get {l : List Car} {a m b : Nat} (h1 : a ≤ m) (h2 : m ≤ b) (h3 : b ≤ l.length) (t : Nat) :
    (rotd l a m b)[t]? = if t < a then l[t]? else if t < a + (b - m) then l[t - a + m]? else if t < b then l[t - (b - m)]? else l[t]? := by
  simp only [rotd, List.getElem?_append, List.length_take, List.length_drop, List.getElem?_take, List.getElem?_drop]
  by_cases t1 : t < a
  · rw [if_pos (by omega), if_pos t1, if_pos t1]
  · rw [if_neg (by omega), if_neg t1]
    by_cases t2 : t < a + (b - m)
    · rw [if_pos (by omega), if_pos (by omega), if_pos t2]
      congr 1; omega
    · rw [if_neg (by omega), if_neg t2]
      by_cases t3 : t < b
      · rw [if_pos (by omega), if_pos (by omega), if_pos t3]
        congr 1; omega
      · rw [if_neg (by omega), if_neg t3]
        congr 1; omega
/-- One round of a rotation, the left part being longer. -/
theorem rotd_left {l : List Car} {m i j : Nat} (h1 : i ≤ m) (h2 : m + j ≤ l.length) (h : j ≤ i) : rotd (exchR l (m - i) m j) (m - (i - j)) m (m + j) = rotd l (m - i) m (m + j) := by
  have hl := exchR_length l (m - i) m j
  apply List.ext_getElem?
  intro t
  rw [rotd_get (by omega) (by omega) (by omega), rotd_get (by omega) (by omega) (by omega)]
  have g := exchR_get (l := l) (a := m - i) (b := m) j (by omega) (by omega)
  rw [g, g, g]
  by_cases t1 : t < m - i
  · rw [if_pos (by omega), if_neg (by omega), if_neg (by omega), if_pos t1]
  · rw [if_neg (c := t < m - i) t1]
    by_cases t2 : t < m - i + (m + j - m)
    · rw [if_pos (c := t < m - i + (m + j - m)) t2, if_pos (by omega), if_pos (by omega)]
    · rw [if_neg (c := t < m - i + (m + j - m)) t2, if_neg (by omega)]
      by_cases t3 : t < m + j
      · rw [if_pos (c := t < m + j) t3, if_pos (c := t < m + j) t3]
        by_cases t4 : t < m - (i - j) + (m + j - m)
        · rw [if_pos t4, if_neg (by omega), if_pos (by omega)]
          congr 1; omega
        · rw [if_neg t4, if_neg (by omega), if_neg (by omega)]
      · rw [if_neg (c := t < m + j) t3, if_neg (c := t < m + j) t3, if_neg (by omega), if_neg (by omega), if_neg (by omega)]
/-- One round of a rotation, the right part being longer. -/
theorem rotd_right {l : List Car} {m i j : Nat} (h1 : i ≤ m) (h2 : m + j ≤ l.length) (h : i ≤ j) : rotd (exchR l (m - i) (m + j - i) i) (m - i) m (m + (j - i)) = rotd l (m - i) m (m + j) := by
  have hl := exchR_length l (m - i) (m + j - i) i
  apply List.ext_getElem?
  intro t
  rw [rotd_get (by omega) (by omega) (by omega), rotd_get (by omega) (by omega) (by omega)]
  have g := exchR_get (l := l) (a := m - i) (b := m + j - i) i (by omega) (by omega)
  rw [g, g, g]
  by_cases t1 : t < m - i
  · rw [if_pos t1, if_neg (by omega), if_neg (by omega), if_pos t1]
  · rw [if_neg (c := t < m - i) t1, if_neg (c := t < m - i) t1]
    by_cases t2 : t < m - i + (m + (j - i) - m)
    · rw [if_pos t2, if_neg (by omega), if_neg (by omega), if_pos (by omega)]
    · rw [if_neg t2]
      by_cases t3 : t < m + (j - i)
      · rw [if_pos t3, if_pos (by omega), if_pos (by omega)]
        congr 1; omega
      · rw [if_neg t3]
        by_cases t4 : t < m + j
        · rw [if_neg (by omega), if_pos (by omega), if_neg (by omega), if_pos t4]
          congr 1; omega
        · rw [if_neg (by omega), if_neg (by omega), if_neg (by omega), if_neg t4]
theorem rotd_even {l : List Car} {m i : Nat} (h1 : i ≤ m) (h2 : m + i ≤ l.length) : exchR l (m - i) m i = rotd l (m - i) m (m + i) := by
  apply List.ext_getElem?
  intro t
  rw [rotd_get (by omega) (by omega) (by omega), exchR_get (l := l) (a := m - i) (b := m) i (by omega) (by omega)]
  by_cases t1 : t < m - i
  · rw [if_neg (by omega), if_neg (by omega), if_pos t1]
  · rw [if_neg t1]
    by_cases t2 : t < m - i + (m + i - m)
    · rw [if_pos t2, if_pos (by omega)]
    · rw [if_neg t2, if_neg (by omega)]
      by_cases t3 : t < m + i
      · rw [if_pos t3, if_pos (by omega)]
        congr 1; omega
      · rw [if_neg t3, if_neg (by omega)]
/-- The parts of a rotation by their lists. -/
theorem rotd_parts (p a b s : List Car) {m e : Nat} (hm : m = p.length + a.length) (he : e = p.length + a.length + b.length) : rotd (p ++ (a ++ (b ++ s))) p.length m e = p ++ (b ++ (a ++ s)) := by
  subst hm he
  unfold rotd
  rw [List.take_left, List.drop_left, Nat.add_sub_cancel_left, Nat.add_sub_cancel_left, List.take_left]
  have e1 : (p ++ (a ++ (b ++ s))).drop (p.length + a.length) = b ++ s := by
    rw [← List.append_assoc, ← List.length_append]; exact List.drop_left
  have e2 : (p ++ (a ++ (b ++ s))).drop (p.length + a.length + b.length) = s := by
    rw [← List.append_assoc, ← List.append_assoc, ← List.length_append, ← List.length_append]; exact List.drop_left
  rw [e1, e2, List.take_left]
theorem flat_set : ∀ (l : List Car) (i : Nat) (c : Car), ((((flat l).set (i * 4) c.1).set (i * 4 + 1) c.2.1).set (i * 4 + 2) c.2.2.1).set (i * 4 + 3) c.2.2.2 = flat (l.set i c)
  | [], i, c => by simp [flat]
  | a :: t, 0, c => by rw [List.set_cons_zero, flat_cons, flat_cons]; simp
  | a :: t, i + 1, c => by
    have ih := flat_set t i c
    rw [List.set_cons_succ, flat_cons, flat_cons, ← ih]
    have e : ∀ q, (i + 1) * 4 + q = (i * 4 + q) + 1 + 1 + 1 + 1 := fun q => by omega
    have e0 : (i + 1) * 4 = i * 4 + 1 + 1 + 1 + 1 := by omega
    rw [e 1, e 2, e 3, e0]
    simp only [List.set_cons_succ]
theorem flat_at (l : List Car) (i : Nat) (h : i < l.length) : (flat l).getD (i * 4) 0 = (l.getD i c0).1 ∧ (flat l).getD (i * 4 + 1) 0 = (l.getD i c0).2.1 ∧ (flat l).getD (i * 4 + 2) 0 = (l.getD i c0).2.2.1 ∧ (flat l).getD (i * 4 + 3) 0 = (l.getD i c0).2.2.2 :=
  ⟨flat_get l i 0 h (by omega), flat_get l i 1 h (by omega), flat_get l i 2 h (by omega), flat_get l i 3 h (by omega)⟩
end Go.Proofs.Ytamehlafmfmgmaa
