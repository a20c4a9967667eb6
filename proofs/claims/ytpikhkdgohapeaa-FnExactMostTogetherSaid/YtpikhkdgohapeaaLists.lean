/- Lists of numbers that are filled and marked cell by cell: plain laws. Without conditions. -/
import Derived.Test.YtpikhkdgohapeaaMem
namespace Go.Proofs.Ytpikhkdgohapeaa
open Go.RowKit

/-- The first k cells copied, the others still zero. -/
def filled (xs : List Int) (m k : Nat) : List Int := xs.take k ++ List.replicate (m - k) 0
theorem filled_zero (xs : List Int) (m : Nat) : filled xs m 0 = List.replicate m 0 := by simp [filled]
theorem filled_all (xs : List Int) (m : Nat) (h : xs.length = m) : filled xs m m = xs := by
  subst h; simp [filled]
theorem filled_set (xs : List Int) (m k : Nat) (h : xs.length = m) (hk : k < m) : (filled xs m k).set k (xs.getD k 0) = filled xs m (k + 1) := by
  subst h
  apply List.ext_getElem?
  intro j
  simp only [filled, List.getElem?_set, List.getElem?_append, List.getElem?_take, List.getElem?_replicate, List.length_append, List.length_take, List.length_replicate]
  rcases Nat.lt_trichotomy j k with h1 | h1 | h1
  · have a1 : ¬ k = j := by omega
    have a2 : j < min k xs.length := by omega
    have a3 : j < min (k + 1) xs.length := by omega
    have a4 : j < k + 1 := by omega
    simp [a1, a2, a3, h1, a4]
  · subst h1
    have a3 : j < min (j + 1) xs.length := by omega
    have a4 : j < min j xs.length + (xs.length - j) := by omega
    simp [a3, a4, hk]
  · have a1 : ¬ k = j := by omega
    have a2 : ¬ j < min k xs.length := by omega
    have a3 : ¬ j < min (k + 1) xs.length := by omega
    have e : (j - min k xs.length < xs.length - k) = (j - min (k + 1) xs.length < xs.length - (k + 1)) := by
      apply propext; constructor <;> intro <;> omega
    simp only [a1, a2, a3, if_false, e]
theorem ints_set (xs : List Int) (k : Nat) (x : Int) : (ints xs).set k (.int .i64 x) = ints (xs.set k x) := by simp [ints, List.map_set]
theorem madeInts (m : Nat) : (madeCells (Value.int .i64 0).cells m).toList = ints (List.replicate m 0) := by
  show (madeCells #[Value.int .i64 0] m).toList = _
  rw [toList_madeCells_one]; simp [ints]

/-- k, k + 1, and so on: what the marks are. -/
def marks (m : Nat) (k : Int) : List Int := (List.range m).map fun j : Nat => k + (j : Int)
theorem marks_length (m : Nat) (k : Int) : (marks m k).length = m := by simp [marks]
theorem marks_get (m : Nat) (k : Int) (j : Nat) (h : j < m) : (marks m k).getD j 0 = k + (j : Int) := by simp [marks, h]
/-- The first j cells marked, the others as they were. -/
def marked (vs : List Value) (k : Int) (j : Nat) : List Value := ints (marks j k) ++ vs.drop j
theorem marked_zero (vs : List Value) (k : Int) : marked vs k 0 = vs := by simp [marked, marks, ints]
theorem marked_all (vs : List Value) (k : Int) (m : Nat) (h : vs.length = m) : marked vs k m = ints (marks m k) := by
  subst h; simp [marked]
theorem marked_length (vs : List Value) (k : Int) (j : Nat) (h : j ≤ vs.length) : (marked vs k j).length = vs.length := by
  simp [marked, ints, marks]; omega
theorem marked_set (vs : List Value) (k : Int) (j : Nat) (h : j < vs.length) : (marked vs k j).set j (.int .i64 (k + (j : Int))) = marked vs k (j + 1) := by
  apply List.ext_getElem?
  intro i
  simp only [marked, List.getElem?_set, List.getElem?_append, ints_length, marks_length, List.getElem?_drop]
  rcases Nat.lt_trichotomy i j with h1 | h1 | h1
  · have a1 : ¬ j = i := by omega
    have a3 : i < j + 1 := by omega
    simp [a1, h1, a3, ints, marks]
  · subst h1
    have a4 : i < (ints (marks i k) ++ List.drop i vs).length := by simp [ints, marks]; omega
    simp [a4, ints, marks]; omega
  · have a1 : ¬ j = i := by omega
    have a2 : ¬ i < j := by omega
    have a3 : ¬ i < j + 1 := by omega
    simp only [a1, a2, a3, if_false]
    congr 1; omega

end Go.Proofs.Ytpikhkdgohapeaa
