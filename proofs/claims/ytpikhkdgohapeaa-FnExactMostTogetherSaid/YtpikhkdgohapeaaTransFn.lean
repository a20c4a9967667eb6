/- What a transition is, in numbers; its moves; the pairs of performers with a property: plain laws. Without conditions. -/
import Derived.Test.YtpikhkdgohapeaaSpotAt
import Derived.Test.YtpikhkdgohapeaaSpot
import Derived.Test.YtpikhkdgohapeaaApartFn
namespace Go.Proofs.Ytpikhkdgohapeaa
open Go.RowKit

/-- The numbers of a transition: n spots, m spots, the counts, p places. -/
structure TrN where
  n : Nat
  xs : List Int
  m : Nat
  ys : List Int
  c : Int
  p : Nat
  ps : List Int
def eqAt (xs : List Int) (i j : Nat) : Bool := (X xs i == X xs j) && (Y xs i == Y xs j)
/-- Spot i is on the field, and no earlier one is the same. -/
def chOk (xs : List Int) (i : Nat) : Bool := spotB (X xs i) (Y xs i) && !(List.range i).any (fun j => eqAt xs j i)
def chB (n : Nat) (xs : List Int) : Bool := inB n 1 12 && (List.range n).all (chOk xs)
def maOk (m : Nat) (ps : List Int) (i : Nat) : Bool := inB (ps.getD i 0) 0 ((m : Int) - 1) && !(List.range i).any (fun j => ps.getD j 0 == ps.getD i 0)
def maB (m p : Nat) (ps : List Int) : Bool := (List.range p).all (maOk m ps) && p == m
def trB (t : TrN) : Bool := chB t.n t.xs && (chB t.m t.ys && (t.n == t.m && (inB t.c 1 64 && maB t.n t.p t.ps)))
/-- The spot that performer i goes to. -/
def plc (t : TrN) (i : Nat) : Nat := (t.ps.getD i 0).toNat
structure TrOk (t : TrN) : Prop where
  n0 : 1 ≤ t.n
  n1 : t.n ≤ 12
  m : t.m = t.n
  p : t.p = t.n
  c0 : 1 ≤ t.c
  c1 : t.c ≤ 64
  from_ : ∀ i, i < t.n → spotB (X t.xs i) (Y t.xs i) = true
  to_ : ∀ i, i < t.n → spotB (X t.ys i) (Y t.ys i) = true
  place : ∀ i, i < t.n → t.ps.getD i 0 = (plc t i : Int) ∧ plc t i < t.n
theorem chB_spot {n : Nat} {xs : List Int} (h : chB n xs = true) : (1 ≤ n ∧ n ≤ 12) ∧ ∀ i, i < n → spotB (X xs i) (Y xs i) = true := by
  simp only [chB, Bool.and_eq_true, List.all_eq_true, List.mem_range] at h
  have := inB_yes h.1
  refine ⟨by omega, fun i hi => ?_⟩
  have := h.2 i hi
  simp only [chOk, Bool.and_eq_true] at this
  exact this.1
theorem tr_ok {t : TrN} (h : trB t = true) : TrOk t := by
  simp only [trB, Bool.and_eq_true, beq_iff_eq] at h
  obtain ⟨h1, h2, h3, h4, h5⟩ := h
  have k1 := chB_spot h1
  have k2 := chB_spot h2
  have k4 := inB_yes h4
  simp only [maB, Bool.and_eq_true, List.all_eq_true, List.mem_range, beq_iff_eq] at h5
  refine ⟨k1.1.1, k1.1.2, h3.symm, h5.2, k4.1, k4.2, k1.2, fun i hi => k2.2 i (by omega), fun i hi => ?_⟩
  have := h5.1 i (by omega)
  simp only [maOk, Bool.and_eq_true] at this
  have := inB_yes this.1
  unfold plc
  omega

/-- The moves of a transition, one behind the other. -/
def mvTo (t : TrN) : Nat → List Int
  | 0 => []
  | i + 1 => mvTo t i ++ [X t.xs i, Y t.xs i, X t.ys (plc t i), Y t.ys (plc t i), t.c]
theorem mvTo_length (t : TrN) : ∀ k, (mvTo t k).length = k * 5
  | 0 => rfl
  | k + 1 => by simp [mvTo, mvTo_length t k]; omega
theorem mvTo_get (t : TrN) (k i : Nat) (hi : i < k) : (mvTo t k).getD (i * 5) 0 = X t.xs i ∧ (mvTo t k).getD (i * 5 + 1) 0 = Y t.xs i ∧ (mvTo t k).getD (i * 5 + 2) 0 = X t.ys (plc t i) ∧
    (mvTo t k).getD (i * 5 + 3) 0 = Y t.ys (plc t i) ∧ (mvTo t k).getD (i * 5 + 4) 0 = t.c := by
  induction k with
  | zero => omega
  | succ k ih =>
    have hl := mvTo_length t k
    have get : ∀ j, (mvTo t (k + 1)).getD j 0 = if j < k * 5 then (mvTo t k).getD j 0 else ([X t.xs k, Y t.xs k, X t.ys (plc t k), Y t.ys (plc t k), t.c] : List Int).getD (j - k * 5) 0 := by
      intro j
      simp only [mvTo, List.getD_eq_getElem?_getD, List.getElem?_append, hl]
      split <;> rfl
    rcases Nat.lt_succ_iff_lt_or_eq.1 hi with h | rfl
    · have := ih h
      simp only [get]
      rw [if_pos (by omega), if_pos (by omega), if_pos (by omega), if_pos (by omega), if_pos (by omega)]
      exact this
    · simp only [get]
      rw [if_neg (by omega), if_neg (by omega), if_neg (by omega), if_neg (by omega), if_neg (by omega)]
      rw [Nat.sub_self, Nat.add_sub_cancel_left, Nat.add_sub_cancel_left, Nat.add_sub_cancel_left, Nat.add_sub_cancel_left]
      exact ⟨rfl, rfl, rfl, rfl, rfl⟩

/-- The way from performer k to performer i, at the begin and at the end. -/
def wpx (t : TrN) (i k : Nat) : Int := X t.xs i - X t.xs k
def wpy (t : TrN) (i k : Nat) : Int := Y t.xs i - Y t.xs k
def wqx (t : TrN) (i k : Nat) : Int := X t.ys (plc t i) - X t.ys (plc t k)
def wqy (t : TrN) (i k : Nat) : Int := Y t.ys (plc t i) - Y t.ys (plc t k)
def apT (t : TrN) (i k : Nat) : Int := lpT (wpx t i k) (wpy t i k) (wqx t i k) (wqy t i k)
def apB (t : TrN) (i k : Nat) : Int := lpB (wpx t i k) (wpy t i k) (wqx t i k) (wqy t i k)
/-- Two performers come closer than a least distance. -/
def cfAt (t : TrN) (L : Int) (i k : Nat) : Bool := decide (apT t i k < L * L * apB t i k)
def clAt (t : TrN) (i k : Nat) : Bool := apT t i k == 0

/-- The pairs (i, k), k from i + 1 on and below d, with a property. -/
def prIn (p : Nat → Nat → Bool) (i : Nat) : Nat → List (List Int)
  | 0 => []
  | d + 1 => prIn p i d ++ (if i < d ∧ p i d = true then [[(i : Int), (d : Int)]] else [])
def prTo (p : Nat → Nat → Bool) (n : Nat) : Nat → List (List Int)
  | 0 => []
  | i + 1 => prTo p n i ++ prIn p i n
theorem prIn_first (p : Nat → Nat → Bool) (i : Nat) : ∀ d, d ≤ i + 1 → prIn p i d = []
  | 0, _ => rfl
  | d + 1, h => by
    rw [prIn, prIn_first p i d (by omega), if_neg (by omega)]; rfl
theorem prIn_yes {p : Nat → Nat → Bool} {i d : Nat} (h : i < d) (hp : p i d = true) : prIn p i (d + 1) = prIn p i d ++ [[(i : Int), (d : Int)]] := by rw [prIn, if_pos ⟨h, hp⟩]
theorem prIn_no {p : Nat → Nat → Bool} {i d : Nat} (hp : p i d = false) : prIn p i (d + 1) = prIn p i d := by rw [prIn, if_neg (by simp [hp])]; simp
theorem prIn_mem {p : Nat → Nat → Bool} {i : Nat} {r : List Int} : ∀ {d : Nat}, r ∈ prIn p i d → ∃ k : Nat, i < k ∧ k < d ∧ p i k = true ∧ r = [(i : Int), (k : Int)]
  | 0, h => by simp [prIn] at h
  | d + 1, h => by
    rw [prIn, List.mem_append] at h
    rcases h with h | h
    · obtain ⟨k, h1, h2, h3, h4⟩ := prIn_mem h
      exact ⟨k, h1, by omega, h3, h4⟩
    · split at h
      · rename_i hc
        simp at h
        exact ⟨d, hc.1, by omega, hc.2, h⟩
      · simp at h
theorem prTo_mem {p : Nat → Nat → Bool} {n : Nat} {r : List Int} : ∀ {a : Nat}, r ∈ prTo p n a → ∃ i k : Nat, i < a ∧ i < k ∧ k < n ∧ p i k = true ∧ r = [(i : Int), (k : Int)]
  | 0, h => by simp [prTo] at h
  | a + 1, h => by
    rw [prTo, List.mem_append] at h
    rcases h with h | h
    · obtain ⟨i, k, h1, h2, h3, h4, h5⟩ := prTo_mem h
      exact ⟨i, k, by omega, h2, h3, h4, h5⟩
    · obtain ⟨k, h1, h2, h3, h4⟩ := prIn_mem h
      exact ⟨a, k, by omega, h1, h2, h3, h4⟩
theorem prIn_len (p : Nat → Nat → Bool) (i : Nat) : ∀ d, (prIn p i d).length ≤ d
  | 0 => by simp [prIn]
  | d + 1 => by
    have := prIn_len p i d
    rw [prIn, List.length_append]
    split <;> simp <;> omega
theorem prTo_len (p : Nat → Nat → Bool) (n : Nat) : ∀ a, (prTo p n a).length ≤ a * n
  | 0 => by simp [prTo]
  | a + 1 => by
    have := prTo_len p n a
    have := prIn_len p a n
    rw [prTo, List.length_append, Nat.succ_mul]
    omega
/-- Few rows, none of them long. -/
def smallRows (rs : List (List Int)) : Prop := rs.length ≤ 1000 ∧ ∀ r ∈ rs, r.length ≤ 1000
end Go.Proofs.Ytpikhkdgohapeaa
