/- Contracts of the tests 'within' and 'l1In': they say whether a number lies in a range, and change nothing. Without conditions. Contracts of the tests on a spot and on a move, of toSpot and toMove, and of the absolute value. Without conditions. What a transition is, in numbers; its moves; the pairs of performers with a property: plain laws. Without conditions. The contract of toSpot. Without conditions. What the functions on conflicts return: plain laws. Without conditions. Contracts of the tests on a move and of toMove. Without conditions. -/
import Derived.Test.YtjcepipgjpaclaaPFnConflicts01
import Derived.Test.YtjcepipgjpaclaaProg
import Derived.KernelRfl
namespace Go.Proofs.Ytjcepipgjpaclaa
open Go.RowKit

def inB (n lo hi : Int) : Bool := decide (lo ≤ n ∧ n ≤ hi)
theorem inB_yes {n lo hi : Int} (h : inB n lo hi = true) : lo ≤ n ∧ n ≤ hi := by simpa [inB] using h
theorem inB_mk {n lo hi : Int} (h1 : lo ≤ n) (h2 : n ≤ hi) : inB n lo hi = true := by simp [inB, h1, h2]
theorem inB_no {n lo hi : Int} (h : inB n lo hi = false) : n < lo ∨ hi < n := by
  simp only [inB, decide_eq_false_iff_not] at h; omega
theorem inB_lo {n lo hi : Int} (h : n < lo) : inB n lo hi = false := by
  simp only [inB, decide_eq_false_iff_not]; omega
theorem inB_hi {n lo hi : Int} (h : hi < n) : inB n lo hi = false := by
  simp only [inB, decide_eq_false_iff_not]; omega

theorem within_any (n lo hi : Int) (w : World) : Calls Try.prog 81 #[.int .i64 n, .int .i64 lo, .int .i64 hi] w fun e w' => e = .returned (.bool (inB n lo hi)) ∧ w = w' := by
  by_cases h1 : lo ≤ n
  · by_cases h2 : n ≤ hi
    · have hf := Lib.hid (inB_mk h1 h2)
      go_enter Try.func81, Try.ntmps81
      go_wp2
      go_ret
      exact ⟨by rw [hf.out]; rfl, rfl⟩
    · have hf := Lib.hid (inB_hi (lo := lo) (Int.not_le.1 h2))
      go_enter Try.func81, Try.ntmps81
      go_wp2
      go_ret
      exact ⟨by rw [hf.out]; rfl, rfl⟩
  · have hf := Lib.hid (inB_lo (hi := hi) (Int.not_le.1 h1))
    go_enter Try.func81, Try.ntmps81
    go_wp2
    go_ret
    exact ⟨by rw [hf.out]; rfl, rfl⟩

theorem l1In_any (n lo hi : Int) (w : World) : Calls Try.prog 132 #[.int .i64 n, .int .i64 lo, .int .i64 hi] w fun e w' => e = .returned (.bool (inB n lo hi)) ∧ w = w' := by
  by_cases h1 : lo ≤ n
  · by_cases h2 : n ≤ hi
    · have hf := Lib.hid (inB_mk h1 h2)
      go_enter Try.func132, Try.ntmps132
      go_wp2
      go_ret
      exact ⟨by rw [hf.out]; rfl, rfl⟩
    · have hf := Lib.hid (inB_hi (lo := lo) (Int.not_le.1 h2))
      go_enter Try.func132, Try.ntmps132
      go_wp2
      go_ret
      exact ⟨by rw [hf.out]; rfl, rfl⟩
  · have hf := Lib.hid (inB_lo (hi := hi) (Int.not_le.1 h1))
    go_enter Try.func132, Try.ntmps132
    go_wp2
    go_ret
    exact ⟨by rw [hf.out]; rfl, rfl⟩
end Go.Proofs.Ytjcepipgjpaclaa

namespace Go.Proofs.Ytjcepipgjpaclaa
open Go.RowKit

def spotB (x y : Int) : Bool := inB x 0 1280 && inB y 0 672
theorem spotB_yes {x y : Int} (h : spotB x y = true) : 0 ≤ x ∧ x ≤ 1280 ∧ 0 ≤ y ∧ y ≤ 672 := by
  simp only [spotB, Bool.and_eq_true] at h
  have := inB_yes h.1; have := inB_yes h.2; omega

theorem IsSpot_any (x y : Int) (w : World) : Calls Try.prog 113 #[(Value.agg #[Value.int .i64 x, Value.int .i64 y])] w fun e w' => e = .returned (.bool (spotB x y)) ∧ Below w.heap.size w w' := by
  cases h1 : inB x 0 1280 with
  | true =>
    have hf := Lib.hid (show spotB x y = inB y 0 672 by simp [spotB, h1])
    go_enter Try.func113, Try.ntmps113
    go_wp2_with (go_at_call 81; refine (within_any _ _ _ _).mono ?_; rintro e w' ⟨rfl, rfl⟩)
    go_ret
    exact ⟨by rw [hf.out]; rfl, (Below.refl _ _).alloc (Nat.le_refl _) _⟩
  | false =>
    have hf := Lib.hid (show spotB x y = false by simp [spotB, h1])
    go_enter Try.func113, Try.ntmps113
    go_wp2_with (go_at_call 81; refine (within_any _ _ _ _).mono ?_; rintro e w' ⟨rfl, rfl⟩)
    go_ret
    exact ⟨by rw [hf.out]; rfl, (Below.refl _ _).alloc (Nat.le_refl _) _⟩
theorem stGood_any (x y : Int) (w : World) : Calls Try.prog 167 #[(Value.agg #[Value.int .i64 x, Value.int .i64 y])] w fun e w' => e = .returned (.bool (spotB x y)) ∧ Below w.heap.size w w' := by
  cases h1 : inB x 0 1280 with
  | true =>
    have hf := Lib.hid (show spotB x y = inB y 0 672 by simp [spotB, h1])
    go_enter Try.func167, Try.ntmps167
    go_wp2_with (go_at_call 132; refine (l1In_any _ _ _ _).mono ?_; rintro e w' ⟨rfl, rfl⟩)
    go_ret
    exact ⟨by rw [hf.out]; rfl, (Below.refl _ _).alloc (Nat.le_refl _) _⟩
  | false =>
    have hf := Lib.hid (show spotB x y = false by simp [spotB, h1])
    go_enter Try.func167, Try.ntmps167
    go_wp2_with (go_at_call 132; refine (l1In_any _ _ _ _).mono ?_; rintro e w' ⟨rfl, rfl⟩)
    go_ret
    exact ⟨by rw [hf.out]; rfl, (Below.refl _ _).alloc (Nat.le_refl _) _⟩
end Go.Proofs.Ytjcepipgjpaclaa

namespace Go.Proofs.Ytjcepipgjpaclaa
open Go.RowKit

/-- The numbers of a transition: n spots, m spots, the counts, p places. -/
structure TrN where
  n : Nat
  xs : List Int
  m : Nat
  ys : List Int
  c : Int
  p : Nat
  ps : List Int
def eqAt (xs : List Int) (i j : Nat) : Bool := (X xs i == X xs j) && (Y xs i == Y xs j)
/-- Spot i is on the field, and no earlier one is the same. -/
def chOk (xs : List Int) (i : Nat) : Bool := spotB (X xs i) (Y xs i) && !(List.range i).any (fun j => eqAt xs j i)
def chB (n : Nat) (xs : List Int) : Bool := inB n 1 12 && (List.range n).all (chOk xs)
def maOk (m : Nat) (ps : List Int) (i : Nat) : Bool := inB (ps.getD i 0) 0 ((m : Int) - 1) && !(List.range i).any (fun j => ps.getD j 0 == ps.getD i 0)
def maB (m p : Nat) (ps : List Int) : Bool := (List.range p).all (maOk m ps) && p == m
def trB (t : TrN) : Bool := chB t.n t.xs && (chB t.m t.ys && (t.n == t.m && (inB t.c 1 64 && maB t.n t.p t.ps)))
/-- The spot that performer i goes to. -/
def plc (t : TrN) (i : Nat) : Nat := (t.ps.getD i 0).toNat
structure TrOk (t : TrN) : Prop where
  n0 : 1 ≤ t.n
  n1 : t.n ≤ 12
  m : t.m = t.n
  p : t.p = t.n
  c0 : 1 ≤ t.c
  c1 : t.c ≤ 64
  from_ : ∀ i, i < t.n → spotB (X t.xs i) (Y t.xs i) = true
  to_ : ∀ i, i < t.n → spotB (X t.ys i) (Y t.ys i) = true
  place : ∀ i, i < t.n → t.ps.getD i 0 = (plc t i : Int) ∧ plc t i < t.n
theorem chB_spot {n : Nat} {xs : List Int} (h : chB n xs = true) : (1 ≤ n ∧ n ≤ 12) ∧ ∀ i, i < n → spotB (X xs i) (Y xs i) = true := by
  simp only [chB, Bool.and_eq_true, List.all_eq_true, List.mem_range] at h
  have := inB_yes h.1
  refine ⟨by omega, fun i hi => ?_⟩
  have := h.2 i hi
  simp only [chOk, Bool.and_eq_true] at this
  exact this.1
theorem tr_ok {t : TrN} (h : trB t = true) : TrOk t := by
  simp only [trB, Bool.and_eq_true, beq_iff_eq] at h
  obtain ⟨h1, h2, h3, h4, h5⟩ := h
  have k1 := chB_spot h1
  have k2 := chB_spot h2
  have k4 := inB_yes h4
  simp only [maB, Bool.and_eq_true, List.all_eq_true, List.mem_range, beq_iff_eq] at h5
  refine ⟨k1.1.1, k1.1.2, h3.symm, h5.2, k4.1, k4.2, k1.2, fun i hi => k2.2 i (by omega), fun i hi => ?_⟩
  have := h5.1 i (by omega)
  simp only [maOk, Bool.and_eq_true] at this
  have := inB_yes this.1
  unfold plc
  omega

/-- The moves of a transition, one behind the other. -/
def mvTo (t : TrN) : Nat → List Int
  | 0 => []
  | i + 1 => mvTo t i ++ [X t.xs i, Y t.xs i, X t.ys (plc t i), Y t.ys (plc t i), t.c]
theorem mvTo_length (t : TrN) : ∀ k, (mvTo t k).length = k * 5
  | 0 => rfl
  | k + 1 => by simp [mvTo, mvTo_length t k]; omega
theorem mvTo_get (t : TrN) (k i : Nat) (hi : i < k) : (mvTo t k).getD (i * 5) 0 = X t.xs i ∧ (mvTo t k).getD (i * 5 + 1) 0 = Y t.xs i ∧ (mvTo t k).getD (i * 5 + 2) 0 = X t.ys (plc t i) ∧
    (mvTo t k).getD (i * 5 + 3) 0 = Y t.ys (plc t i) ∧ (mvTo t k).getD (i * 5 + 4) 0 = t.c := by
  induction k with
  | zero => omega
  | succ k ih =>
    have hl := mvTo_length t k
    have get : ∀ j, (mvTo t (k + 1)).getD j 0 = if j < k * 5 then (mvTo t k).getD j 0 else ([X t.xs k, Y t.xs k, X t.ys (plc t k), Y t.ys (plc t k), t.c] : List Int).getD (j - k * 5) 0 := by
      intro j
      simp only [mvTo, List.getD_eq_getElem?_getD, List.getElem?_append, hl]
      split <;> rfl
    rcases Nat.lt_succ_iff_lt_or_eq.1 hi with h | rfl
    · have := ih h
      simp only [get]
      rw [if_pos (by omega), if_pos (by omega), if_pos (by omega), if_pos (by omega), if_pos (by omega)]
      exact this
    · simp only [get]
      rw [if_neg (by omega), if_neg (by omega), if_neg (by omega), if_neg (by omega), if_neg (by omega)]
      rw [Nat.sub_self, Nat.add_sub_cancel_left, Nat.add_sub_cancel_left, Nat.add_sub_cancel_left, Nat.add_sub_cancel_left]
      exact ⟨rfl, rfl, rfl, rfl, rfl⟩

/-- The way from performer k to performer i, at the begin and at the end. -/
def wpx (t : TrN) (i k : Nat) : Int := X t.xs i - X t.xs k
def wpy (t : TrN) (i k : Nat) : Int := Y t.xs i - Y t.xs k
def wqx (t : TrN) (i k : Nat) : Int := X t.ys (plc t i) - X t.ys (plc t k)
def wqy (t : TrN) (i k : Nat) : Int := Y t.ys (plc t i) - Y t.ys (plc t k)
def apT (t : TrN) (i k : Nat) : Int := lpT (wpx t i k) (wpy t i k) (wqx t i k) (wqy t i k)
def apB (t : TrN) (i k : Nat) : Int := lpB (wpx t i k) (wpy t i k) (wqx t i k) (wqy t i k)
/-- Two performers come closer than a least distance. -/
def cfAt (t : TrN) (L : Int) (i k : Nat) : Bool := decide (apT t i k < L * L * apB t i k)
def clAt (t : TrN) (i k : Nat) : Bool := apT t i k == 0

/-- The pairs (i, k), k from i + 1 on and below d, with a property. -/
def prIn (p : Nat → Nat → Bool) (i : Nat) : Nat → List (List Int)
  | 0 => []
  | d + 1 => prIn p i d ++ (if i < d ∧ p i d = true then [[(i : Int), (d : Int)]] else [])
def prTo (p : Nat → Nat → Bool) (n : Nat) : Nat → List (List Int)
  | 0 => []
  | i + 1 => prTo p n i ++ prIn p i n
theorem prIn_first (p : Nat → Nat → Bool) (i : Nat) : ∀ d, d ≤ i + 1 → prIn p i d = []
  | 0, _ => rfl
  | d + 1, h => by
    rw [prIn, prIn_first p i d (by omega), if_neg (by omega)]; rfl
theorem prIn_yes {p : Nat → Nat → Bool} {i d : Nat} (h : i < d) (hp : p i d = true) : prIn p i (d + 1) = prIn p i d ++ [[(i : Int), (d : Int)]] := by rw [prIn, if_pos ⟨h, hp⟩]
theorem prIn_no {p : Nat → Nat → Bool} {i d : Nat} (hp : p i d = false) : prIn p i (d + 1) = prIn p i d := by rw [prIn, if_neg (by simp [hp])]; simp
theorem prIn_mem {p : Nat → Nat → Bool} {i : Nat} {r : List Int} : ∀ {d : Nat}, r ∈ prIn p i d → ∃ k : Nat, i < k ∧ k < d ∧ p i k = true ∧ r = [(i : Int), (k : Int)]
  | 0, h => by simp [prIn] at h
  | d + 1, h => by
    rw [prIn, List.mem_append] at h
    rcases h with h | h
    · obtain ⟨k, h1, h2, h3, h4⟩ := prIn_mem h
      exact ⟨k, h1, by omega, h3, h4⟩
    · split at h
      · rename_i hc
        simp at h
        exact ⟨d, hc.1, by omega, hc.2, h⟩
      · simp at h
theorem prTo_mem {p : Nat → Nat → Bool} {n : Nat} {r : List Int} : ∀ {a : Nat}, r ∈ prTo p n a → ∃ i k : Nat, i < a ∧ i < k ∧ k < n ∧ p i k = true ∧ r = [(i : Int), (k : Int)]
  | 0, h => by simp [prTo] at h
  | a + 1, h => by
    rw [prTo, List.mem_append] at h
    rcases h with h | h
    · obtain ⟨i, k, h1, h2, h3, h4, h5⟩ := prTo_mem h
      exact ⟨i, k, by omega, h2, h3, h4, h5⟩
    · obtain ⟨k, h1, h2, h3, h4⟩ := prIn_mem h
      exact ⟨a, k, by omega, h1, h2, h3, h4⟩
theorem prIn_len (p : Nat → Nat → Bool) (i : Nat) : ∀ d, (prIn p i d).length ≤ d
  | 0 => by simp [prIn]
  | d + 1 => by
    have := prIn_len p i d
    rw [prIn, List.length_append]
    split <;> simp <;> omega
theorem prTo_len (p : Nat → Nat → Bool) (n : Nat) : ∀ a, (prTo p n a).length ≤ a * n
  | 0 => by simp [prTo]
  | a + 1 => by
    have := prTo_len p n a
    have := prIn_len p a n
    rw [prTo, List.length_append, Nat.succ_mul]
    omega
/-- Few rows, none of them long. -/
def smallRows (rs : List (List Int)) : Prop := rs.length ≤ 1000 ∧ ∀ r ∈ rs, r.length ≤ 1000
end Go.Proofs.Ytjcepipgjpaclaa

namespace Go.Proofs.Ytjcepipgjpaclaa
open Go.RowKit
theorem toSpot_exact (x y : Int) (w : World) : Calls Try.prog 104 #[(Value.agg #[Value.int .i64 x, Value.int .i64 y])] w fun e w' => e = .returned (Value.agg #[Value.int .i64 x, Value.int .i64 y]) ∧
    w' = ((w.alloc (.cells #[.int .i64 x, .int .i64 y] 111)).alloc (.cells #[.int .i64 x, .int .i64 y] 45)).alloc (.cells #[.int .i64 x, .int .i64 y] 45) := by
  go_enter Try.func104, Try.ntmps104
  go_wp2
  exact bodyPost_ret (v := (Value.agg #[Value.int .i64 x, Value.int .i64 y])) (by simp [results, Try.results104, go_sem]) rfl ⟨rfl, rfl⟩
theorem toSpot_any (x y : Int) (w : World) : Calls Try.prog 104 #[(Value.agg #[Value.int .i64 x, Value.int .i64 y])] w fun e w' => e = .returned (Value.agg #[Value.int .i64 x, Value.int .i64 y]) ∧ Below w.heap.size w w' :=
  (toSpot_exact x y w).mono fun _ _ ⟨h1, h2⟩ => ⟨h1, by rw [h2]; exact (((Below.refl _ _).alloc (Nat.le_refl _) _).alloc (by simp) _).alloc (by simp; omega) _⟩

end Go.Proofs.Ytjcepipgjpaclaa

namespace Go.Proofs.Ytjcepipgjpaclaa
def cpB (t : TrN) (L : Int) : Bool := trB t && inB L 0 80
def cpL (t : TrN) (L : Int) : List (List Int) := if cpB t L = true then prTo (cfAt t L) t.n t.n else []
def cpN (t : TrN) (L : Int) : Nat := (cpL t L).length
theorem cp_no {t : TrN} {L : Int} (h : cpB t L = false) : cpB t L = false ∧ cpL t L = [] ∧ cpN t L = 0 := by simp [cpL, cpN, h]
theorem cp_yes {t : TrN} {L : Int} (h : cpB t L = true) : cpB t L = true ∧ cpL t L = prTo (cfAt t L) t.n t.n ∧ cpN t L = (prTo (cfAt t L) t.n t.n).length := by simp [cpL, cpN, h]
theorem pr_small {p : Nat → Nat → Bool} {n : Nat} (hn : n ≤ 12) : (prTo p n n).length ≤ 144 ∧ ∀ r ∈ prTo p n n, r.length = 2 := by
  have h1 := prTo_len p n n
  have h2 : n * n ≤ 12 * 12 := Nat.mul_le_mul hn hn
  refine ⟨by omega, fun r hr => ?_⟩
  obtain ⟨i, k, _, _, _, _, rfl⟩ := prTo_mem hr
  rfl
theorem cp_small (t : TrN) (L : Int) : smallRows (cpL t L) ∧ cpN t L = (cpL t L).length := by
  refine ⟨?_, rfl⟩
  cases h : cpB t L with
  | false => rw [(cp_no h).2.1]; simp [smallRows]
  | true =>
    rw [(cp_yes h).2.1]
    have ht : trB t = true := by simp only [cpB, Bool.and_eq_true] at h; exact h.1
    have := pr_small (p := cfAt t L) (tr_ok ht).n1
    exact ⟨by omega, fun r hr => by have := this.2 r hr; omega⟩

def clB (t : TrN) : Bool := trB t
def clL (t : TrN) : List (List Int) := if clB t = true then prTo (clAt t) t.n t.n else []
def clN (t : TrN) : Nat := (clL t).length
theorem cl_no {t : TrN} (h : clB t = false) : clB t = false ∧ clL t = [] ∧ clN t = 0 := by simp [clL, clN, h]
theorem cl_yes {t : TrN} (h : clB t = true) : clB t = true ∧ clL t = prTo (clAt t) t.n t.n ∧ clN t = (prTo (clAt t) t.n t.n).length := by simp [clL, clN, h]
theorem cl_small (t : TrN) : smallRows (clL t) ∧ clN t = (clL t).length := by
  refine ⟨?_, rfl⟩
  cases h : clB t with
  | false => rw [(cl_no h).2.1]; simp [smallRows]
  | true =>
    rw [(cl_yes h).2.1]
    have := pr_small (p := clAt t) (tr_ok h).n1
    exact ⟨by omega, fun r hr => by have := this.2 r hr; omega⟩

/-! ### How many conflicts each performer has -/
def bmp (l : List Int) (a : Int) : List Int := l.set a.toNat (l.getD a.toNat 0 + 1)
def ccTo (rs : List (List Int)) (n : Nat) : Nat → List Int
  | 0 => List.replicate n 0
  | k + 1 => bmp (bmp (ccTo rs n k) ((rs.getD k []).getD 0 0)) ((rs.getD k []).getD 1 0)
theorem bmp_length (l : List Int) (a : Int) : (bmp l a).length = l.length := by simp [bmp]
theorem ccTo_length (rs : List (List Int)) (n : Nat) : ∀ k, (ccTo rs n k).length = n
  | 0 => by simp [ccTo]
  | k + 1 => by simp [ccTo, bmp_length, ccTo_length rs n k]
theorem bmp_in {l : List Int} {m a : Int} (h : ∀ j, 0 ≤ l.getD j 0 ∧ l.getD j 0 ≤ m) (j : Nat) : 0 ≤ (bmp l a).getD j 0 ∧ (bmp l a).getD j 0 ≤ m + 1 := by
  have h1 := h j
  have h2 := h a.toNat
  simp only [bmp, List.getD_eq_getElem?_getD, List.getElem?_set] at *
  split
  · split
    · simp only [Option.getD_some]; omega
    · simp only [Option.getD_none]; omega
  · omega
theorem ccTo_in (rs : List (List Int)) (n : Nat) : ∀ k j, 0 ≤ (ccTo rs n k).getD j 0 ∧ (ccTo rs n k).getD j 0 ≤ 2 * k
  | 0, j => by
    simp only [ccTo, List.getD_eq_getElem?_getD, List.getElem?_replicate]
    split <;> simp
  | k + 1, j => by
    have h1 := bmp_in (a := (rs.getD k []).getD 0 0) (ccTo_in rs n k)
    have h2 := bmp_in (a := (rs.getD k []).getD 1 0) h1 j
    simp only [ccTo]
    have : ((k + 1 : Nat) : Int) = (k : Int) + 1 := by omega
    omega
def ccB (t : TrN) (L : Int) : Bool := cpB t L
def ccL (t : TrN) (L : Int) : List Int := if cpB t L = true then ccTo (cpL t L) t.n (cpN t L) else []
def ccN (t : TrN) (L : Int) : Nat := (ccL t L).length
theorem cc_no {t : TrN} {L : Int} (h : cpB t L = false) : ccB t L = false ∧ ccL t L = [] ∧ ccN t L = 0 := by simp [ccB, ccL, ccN, h]
theorem cc_yes {t : TrN} {L : Int} (h : cpB t L = true) : ccB t L = true ∧ ccL t L = ccTo (cpL t L) t.n (cpN t L) ∧ ccN t L = t.n := by simp [ccB, ccL, ccN, h, ccTo_length]
theorem cc_le (t : TrN) (L : Int) : ccN t L ≤ 12 := by
  cases h : cpB t L with
  | false => rw [(cc_no h).2.2]; omega
  | true =>
    rw [(cc_yes h).2.2]
    have ht : trB t = true := by simp only [cpB, Bool.and_eq_true] at h; exact h.1
    exact (tr_ok ht).n1
theorem cc_small (t : TrN) (L : Int) : ccN t L ≤ 1000000 ∧ ccN t L = ccN t L := ⟨by have := cc_le t L; omega, rfl⟩

/-! ### Those without a conflict -/
def fpTo (cs : List Int) : Nat → List Int
  | 0 => []
  | i + 1 => fpTo cs i ++ (if cs.getD i 0 = 0 then [(i : Int)] else [])
theorem fpTo_yes {cs : List Int} {i : Nat} (h : cs.getD i 0 = 0) : fpTo cs (i + 1) = fpTo cs i ++ [(i : Int)] := by rw [fpTo, if_pos h]
theorem fpTo_no {cs : List Int} {i : Nat} (h : cs.getD i 0 ≠ 0) : fpTo cs (i + 1) = fpTo cs i := by rw [fpTo, if_neg h]; simp
theorem fpTo_len (cs : List Int) : ∀ i, (fpTo cs i).length ≤ i
  | 0 => by simp [fpTo]
  | i + 1 => by have := fpTo_len cs i; rw [fpTo, List.length_append]; split <;> simp <;> omega
def fpB (t : TrN) (L : Int) : Bool := cpB t L
def fpL (t : TrN) (L : Int) : List Int := fpTo (ccL t L) (ccN t L)
def fpN (t : TrN) (L : Int) : Nat := (fpL t L).length
theorem fp_no {t : TrN} {L : Int} (h : cpB t L = false) : fpB t L = false ∧ fpL t L = [] ∧ fpN t L = 0 := by
  simp [fpB, fpL, fpN, h, (cc_no h).2.2, fpTo]
theorem fp_yes {t : TrN} {L : Int} (h : cpB t L = true) : fpB t L = true ∧ fpL t L = fpTo (ccL t L) t.n ∧ fpN t L = (fpTo (ccL t L) t.n).length := by simp [fpB, fpL, fpN, h, (cc_yes h).2.2]
theorem fp_small (t : TrN) (L : Int) : fpN t L ≤ 1000000 ∧ fpN t L = fpN t L := by
  refine ⟨?_, rfl⟩
  have := fpTo_len (ccL t L) (ccN t L)
  have := cc_le t L
  unfold fpN fpL; omega

/-! ### When they are closest -/
def tmT (px py qx qy c : Int) : Int := if inMid px py qx qy = true then tmA (-dtOf px py qx qy * c) (szOf px py qx qy) else if qx * qx + qy * qy < px * px + py * py then c else 0
def tmU (px py qx qy : Int) (c : Int) : Int := if inMid px py qx qy = true then tmB (-dtOf px py qx qy * c) (szOf px py qx qy) else 1
def apS (t : TrN) (i k : Nat) : Int := tmT (wpx t i k) (wpy t i k) (wqx t i k) (wqy t i k) t.c
def apU (t : TrN) (i k : Nat) : Int := tmU (wpx t i k) (wpy t i k) (wqx t i k) (wqy t i k) t.c
def r0 (r : List Int) : Nat := (r.getD 0 0).toNat
def r1 (r : List Int) : Nat := (r.getD 1 0).toNat
def ctTo (t : TrN) (rs : List (List Int)) : Nat → List (List Int)
  | 0 => []
  | k + 1 => ctTo t rs k ++ [[(rs.getD k []).getD 0 0, (rs.getD k []).getD 1 0, apS t (r0 (rs.getD k [])) (r1 (rs.getD k [])), apU t (r0 (rs.getD k [])) (r1 (rs.getD k []))]]
theorem ctTo_len (t : TrN) (rs : List (List Int)) : ∀ k, (ctTo t rs k).length = k ∧ ∀ r ∈ ctTo t rs k, r.length = 4
  | 0 => by simp [ctTo]
  | k + 1 => by
    have := ctTo_len t rs k
    refine ⟨by simp [ctTo, this.1], fun r hr => ?_⟩
    rw [ctTo, List.mem_append] at hr
    rcases hr with hr | hr
    · exact this.2 r hr
    · simp at hr; subst hr; rfl
def ctB (t : TrN) (L : Int) : Bool := cpB t L
def ctL (t : TrN) (L : Int) : List (List Int) := ctTo t (cpL t L) (cpN t L)
def ctN (t : TrN) (L : Int) : Nat := (ctL t L).length
theorem ct_no {t : TrN} {L : Int} (h : cpB t L = false) : ctB t L = false ∧ ctL t L = [] ∧ ctN t L = 0 := by simp [ctB, ctL, ctN, h, (cp_no h).2.2, ctTo]
theorem ct_yes {t : TrN} {L : Int} (h : cpB t L = true) : ctB t L = true ∧ ctL t L = ctTo t (cpL t L) (cpN t L) ∧ ctN t L = cpN t L := by simp [ctB, ctL, ctN, h, (ctTo_len t (cpL t L) (cpN t L)).1]
theorem ct_small (t : TrN) (L : Int) : smallRows (ctL t L) ∧ ctN t L = (ctL t L).length := by
  have h1 := ctTo_len t (cpL t L) (cpN t L)
  have h2 := cp_small t L
  refine ⟨⟨?_, fun r hr => ?_⟩, rfl⟩
  · unfold ctL; rw [h1.1, h2.2]; exact h2.1.1
  · have := h1.2 r hr; omega

/-! ### Those who are too near at the begin or at the end -/
def edAt (t : TrN) (L : Int) (r : List Int) : Bool :=
  decide (min (wpx t (r0 r) (r1 r) * wpx t (r0 r) (r1 r) + wpy t (r0 r) (r1 r) * wpy t (r0 r) (r1 r)) (wqx t (r0 r) (r1 r) * wqx t (r0 r) (r1 r) + wqy t (r0 r) (r1 r) * wqy t (r0 r) (r1 r)) < L * L)
def ecTo (t : TrN) (L : Int) (rs : List (List Int)) : Nat → List (List Int)
  | 0 => []
  | k + 1 => ecTo t L rs k ++ (if edAt t L (rs.getD k []) = true then [rs.getD k []] else [])
theorem ecTo_len (t : TrN) (L : Int) (rs : List (List Int)) (h : ∀ r ∈ rs, r.length ≤ 1000) : ∀ k, (ecTo t L rs k).length ≤ k ∧ ∀ r ∈ ecTo t L rs k, r.length ≤ 1000
  | 0 => by simp [ecTo]
  | k + 1 => by
    have := ecTo_len t L rs h k
    have hk : (rs.getD k []).length ≤ 1000 := by
      rw [List.getD_eq_getElem?_getD]
      by_cases hj : k < rs.length
      · rw [List.getElem?_eq_getElem hj]; exact h _ (List.getElem_mem hj)
      · rw [List.getElem?_eq_none (by omega)]; simp
    refine ⟨by rw [ecTo, List.length_append]; split <;> simp <;> omega, fun r hr => ?_⟩
    rw [ecTo, List.mem_append] at hr
    rcases hr with hr | hr
    · exact this.2 r hr
    · split at hr
      · simp at hr; subst hr; exact hk
      · simp at hr
def ecB (t : TrN) (L : Int) : Bool := cpB t L
def ecL (t : TrN) (L : Int) : List (List Int) := ecTo t L (cpL t L) (cpN t L)
def ecN (t : TrN) (L : Int) : Nat := (ecL t L).length
theorem ec_no {t : TrN} {L : Int} (h : cpB t L = false) : ecB t L = false ∧ ecL t L = [] ∧ ecN t L = 0 := by simp [ecB, ecL, ecN, h, (cp_no h).2.2, ecTo]
theorem ec_small (t : TrN) (L : Int) : smallRows (ecL t L) ∧ ecN t L = (ecL t L).length := by
  have h2 := cp_small t L
  have h1 := ecTo_len t L (cpL t L) h2.1.2 (cpN t L)
  have h3 := h2.1.1
  have h4 := h2.2
  refine ⟨⟨?_, h1.2⟩, rfl⟩
  unfold ecL; omega

/-! ### The greatest least distance without a conflict -/
def glAt (t : TrN) (L : Nat) : Bool := (prTo (cfAt t (L : Int)) t.n t.n).length == 0
def glDown (t : TrN) : Nat → Nat
  | 0 => 0
  | k + 1 => if glAt t (k + 1) = true then k + 1 else glDown t k
def glUp (t : TrN) : Nat → Nat
  | 0 => 0
  | l + 1 => if glAt t l = true then l else glUp t l
theorem gl_same (t : TrN) : ∀ k, glUp t (k + 1) = glDown t k
  | 0 => by unfold glUp glDown; split <;> rfl
  | k + 1 => by
    have := gl_same t k
    rw [glUp, this, glDown]
def glB (t : TrN) : Bool := trB t
def glV (t : TrN) : Int := if trB t = true then (glDown t 80 : Int) else 0
theorem gl_no {t : TrN} (h : trB t = false) : glB t = false ∧ glV t = 0 := by simp [glB, glV, h]
theorem gl_yes {t : TrN} (h : trB t = true) : glB t = true ∧ glV t = (glDown t 80 : Int) := by simp [glB, glV, h]

/-! ### The two who come closest -/
def lsAt (t : TrN) (a b : Nat) (s : Nat × Nat) : Bool := decide (apT t a b * apB t s.1 s.2 < apT t s.1 s.2 * apB t a b)
def rmIn (t : TrN) (a : Nat) (s : Nat × Nat) : Nat → Nat × Nat
  | 0 => s
  | d + 1 => if a < d ∧ lsAt t a d (rmIn t a s d) = true then (a, d) else rmIn t a s d
def rmOut (t : TrN) (n : Nat) : Nat → Nat × Nat
  | 0 => (0, 1)
  | a + 1 => rmIn t a (rmOut t n a) n
theorem rmIn_first (t : TrN) (a : Nat) (s : Nat × Nat) : ∀ d, d ≤ a + 1 → rmIn t a s d = s
  | 0, _ => rfl
  | d + 1, h => by rw [rmIn, rmIn_first t a s d (by omega), if_neg (by omega)]
theorem rmIn_yes {t : TrN} {a d : Nat} {s : Nat × Nat} (h : a < d) (hp : lsAt t a d (rmIn t a s d) = true) : rmIn t a s (d + 1) = (a, d) := by rw [rmIn, if_pos ⟨h, hp⟩]
theorem rmIn_no {t : TrN} {a d : Nat} {s : Nat × Nat} (hp : lsAt t a d (rmIn t a s d) = false) : rmIn t a s (d + 1) = rmIn t a s d := by rw [rmIn, if_neg (by simp [hp])]
theorem rmIn_lt {t : TrN} {a n : Nat} {s : Nat × Nat} (hs : s.1 < s.2 ∧ s.2 < n) : ∀ d, d ≤ n → (rmIn t a s d).1 < (rmIn t a s d).2 ∧ (rmIn t a s d).2 < n
  | 0, _ => hs
  | d + 1, h => by
    rw [rmIn]
    split
    · rename_i hc; exact ⟨hc.1, by omega⟩
    · exact rmIn_lt hs d (by omega)
theorem rmOut_lt {t : TrN} {n : Nat} (hn : 2 ≤ n) : ∀ a, (rmOut t n a).1 < (rmOut t n a).2 ∧ (rmOut t n a).2 < n
  | 0 => ⟨by simp [rmOut], by simp [rmOut]; omega⟩
  | a + 1 => by rw [rmOut]; exact rmIn_lt (rmOut_lt hn a) n (Nat.le_refl _)
def roB (t : TrN) : Bool := trB t && decide (2 ≤ t.n)
def roA (t : TrN) : Int := if roB t = true then apT t (rmOut t t.n t.n).1 (rmOut t t.n t.n).2 else 0
def roC (t : TrN) : Int := if roB t = true then apB t (rmOut t t.n t.n).1 (rmOut t t.n t.n).2 else 0
theorem ro_no {t : TrN} (h : roB t = false) : roB t = false ∧ roA t = 0 ∧ roC t = 0 := by simp [roA, roC, h]
theorem ro_yes {t : TrN} (h : roB t = true) : roB t = true ∧ roA t = apT t (rmOut t t.n t.n).1 (rmOut t t.n t.n).2 ∧ roC t = apB t (rmOut t t.n t.n).1 (rmOut t t.n t.n).2 := by simp [roA, roC, h]
end Go.Proofs.Ytjcepipgjpaclaa

namespace Go.Proofs.Ytjcepipgjpaclaa
open Go.RowKit
def mvB (x y z u c : Int) : Bool := spotB x y && spotB z u && inB c 1 64
theorem mvB_yes {x y z u c : Int} (h : mvB x y z u c = true) : (0 ≤ x ∧ x ≤ 1280 ∧ 0 ≤ y ∧ y ≤ 672) ∧ (0 ≤ z ∧ z ≤ 1280 ∧ 0 ≤ u ∧ u ≤ 672) ∧ 1 ≤ c ∧ c ≤ 64 := by
  simp only [mvB, Bool.and_eq_true] at h
  exact ⟨spotB_yes h.1.1, spotB_yes h.1.2, inB_yes h.2⟩

theorem IsMove_any (x y z u c : Int) (w : World) : Calls Try.prog 134 #[(Value.agg #[Value.int .i64 x, Value.int .i64 y, Value.int .i64 z, Value.int .i64 u, Value.int .i64 c])] w fun e w' => e = .returned (.bool (mvB x y z u c)) ∧ Below w.heap.size w w' := by
  cases h1 : spotB x y with
  | true =>
    cases h2 : spotB z u with
    | true =>
      have hf := Lib.hid (show mvB x y z u c = inB c 1 64 by simp [mvB, h1, h2])
      go_enter Try.func134, Try.ntmps134
      go_wp2_with fail
      refine (IsSpot_any _ _ _).mono ?_
      rintro e w1 ⟨rfl, hb1⟩
      have k1 := (Blk.new w 47 #[.int .i64 x, .int .i64 y, .int .i64 z, .int .i64 u, .int .i64 c]).on hb1
      obtain ⟨c0, c1, c2, c3, c4⟩ := k1.c5
      have hb1 := Lib.hid (below_box hb1)
      go_wp2_with fail
      refine (IsSpot_any _ _ _).mono ?_
      rintro e w2 ⟨rfl, hb2⟩
      have k2 := k1.on hb2
      obtain ⟨d0, d1, d2, d3, d4⟩ := k2.c5
      have hb2 := Lib.hid (below_on hb1.out hb2)
      go_wp2_with (go_at_call 81; refine (within_any _ _ _ _).mono ?_; rintro e w' ⟨rfl, rfl⟩)
      go_ret
      exact ⟨by rw [hf.out]; rfl, hb2.out⟩
    | false =>
      have hf := Lib.hid (show mvB x y z u c = false by simp [mvB, h1, h2])
      go_enter Try.func134, Try.ntmps134
      go_wp2_with fail
      refine (IsSpot_any _ _ _).mono ?_
      rintro e w1 ⟨rfl, hb1⟩
      have k1 := (Blk.new w 47 #[.int .i64 x, .int .i64 y, .int .i64 z, .int .i64 u, .int .i64 c]).on hb1
      obtain ⟨c0, c1, c2, c3, c4⟩ := k1.c5
      have hb1 := Lib.hid (below_box hb1)
      go_wp2_with fail
      refine (IsSpot_any _ _ _).mono ?_
      rintro e w2 ⟨rfl, hb2⟩
      have k2 := k1.on hb2
      obtain ⟨d0, d1, d2, d3, d4⟩ := k2.c5
      have hb2 := Lib.hid (below_on hb1.out hb2)
      go_wp2_with fail
      go_ret
      exact ⟨by rw [hf.out]; rfl, hb2.out⟩
  | false =>
    have hf := Lib.hid (show mvB x y z u c = false by simp [mvB, h1])
    go_enter Try.func134, Try.ntmps134
    go_wp2_with fail
    refine (IsSpot_any _ _ _).mono ?_
    rintro e w1 ⟨rfl, hb1⟩
    have k1 := (Blk.new w 47 #[.int .i64 x, .int .i64 y, .int .i64 z, .int .i64 u, .int .i64 c]).on hb1
    obtain ⟨c0, c1, c2, c3, c4⟩ := k1.c5
    have hb1 := Lib.hid (below_box hb1)
    go_wp2_with fail
    go_ret
    exact ⟨by rw [hf.out]; rfl, hb1.out⟩

theorem mvGood_any (x y z u c : Int) (w : World) : Calls Try.prog 157 #[(Value.agg #[Value.int .i64 x, Value.int .i64 y, Value.int .i64 z, Value.int .i64 u, Value.int .i64 c])] w fun e w' => e = .returned (.bool (mvB x y z u c)) ∧ Below w.heap.size w w' := by
  cases h1 : spotB x y with
  | true =>
    cases h2 : spotB z u with
    | true =>
      have hf := Lib.hid (show mvB x y z u c = inB c 1 64 by simp [mvB, h1, h2])
      go_enter Try.func157, Try.ntmps157
      go_wp2_with fail
      refine (stGood_any _ _ _).mono ?_
      rintro e w1 ⟨rfl, hb1⟩
      have k1 := (Blk.new w 47 #[.int .i64 x, .int .i64 y, .int .i64 z, .int .i64 u, .int .i64 c]).on hb1
      obtain ⟨c0, c1, c2, c3, c4⟩ := k1.c5
      have hb1 := Lib.hid (below_box hb1)
      go_wp2_with fail
      refine (stGood_any _ _ _).mono ?_
      rintro e w2 ⟨rfl, hb2⟩
      have k2 := k1.on hb2
      obtain ⟨d0, d1, d2, d3, d4⟩ := k2.c5
      have hb2 := Lib.hid (below_on hb1.out hb2)
      go_wp2_with (go_at_call 132; refine (l1In_any _ _ _ _).mono ?_; rintro e w' ⟨rfl, rfl⟩)
      go_ret
      exact ⟨by rw [hf.out]; rfl, hb2.out⟩
    | false =>
      have hf := Lib.hid (show mvB x y z u c = false by simp [mvB, h1, h2])
      go_enter Try.func157, Try.ntmps157
      go_wp2_with fail
      refine (stGood_any _ _ _).mono ?_
      rintro e w1 ⟨rfl, hb1⟩
      have k1 := (Blk.new w 47 #[.int .i64 x, .int .i64 y, .int .i64 z, .int .i64 u, .int .i64 c]).on hb1
      obtain ⟨c0, c1, c2, c3, c4⟩ := k1.c5
      have hb1 := Lib.hid (below_box hb1)
      go_wp2_with fail
      refine (stGood_any _ _ _).mono ?_
      rintro e w2 ⟨rfl, hb2⟩
      have k2 := k1.on hb2
      obtain ⟨d0, d1, d2, d3, d4⟩ := k2.c5
      have hb2 := Lib.hid (below_on hb1.out hb2)
      go_wp2_with fail
      go_ret
      exact ⟨by rw [hf.out]; rfl, hb2.out⟩
  | false =>
    have hf := Lib.hid (show mvB x y z u c = false by simp [mvB, h1])
    go_enter Try.func157, Try.ntmps157
    go_wp2_with fail
    refine (stGood_any _ _ _).mono ?_
    rintro e w1 ⟨rfl, hb1⟩
    have k1 := (Blk.new w 47 #[.int .i64 x, .int .i64 y, .int .i64 z, .int .i64 u, .int .i64 c]).on hb1
    obtain ⟨c0, c1, c2, c3, c4⟩ := k1.c5
    have hb1 := Lib.hid (below_box hb1)
    go_wp2_with fail
    go_ret
    exact ⟨by rw [hf.out]; rfl, hb1.out⟩

end Go.Proofs.Ytjcepipgjpaclaa
