/- Contracts of the tests 'within' and 'l1In': they say whether a number lies in a range, and change nothing. Without conditions. Contracts of the tests on a spot and on a move, of toSpot and toMove, and of the absolute value. Without conditions. What a transition is, in numbers; its moves; the pairs of performers with a property: plain laws. Without conditions. The contract of toSpot. Without conditions. What the functions on conflicts return: plain laws. Without conditions. The sets of those with whom each performer is in conflict, as bits: plain laws. Without conditions. For each performer the earlier ones in conflict: plain laws. Without conditions. The contract of the reference's l1All. Condition: the slice can be read. -/
import Derived.Test.YtnlneblipedddaaPFnExactEvenTransition01
import Derived.Test.YtnlneblipedddaaProg
import Derived.KernelRfl
namespace Go.Proofs.Ytnlneblipedddaa
open Go.RowKit

def inB (n lo hi : Int) : Bool := decide (lo ≤ n ∧ n ≤ hi)
theorem inB_yes {n lo hi : Int} (h : inB n lo hi = true) : lo ≤ n ∧ n ≤ hi := by simpa [inB] using h
theorem inB_mk {n lo hi : Int} (h1 : lo ≤ n) (h2 : n ≤ hi) : inB n lo hi = true := by simp [inB, h1, h2]
theorem inB_no {n lo hi : Int} (h : inB n lo hi = false) : n < lo ∨ hi < n := by
  simp only [inB, decide_eq_false_iff_not] at h; omega
theorem inB_lo {n lo hi : Int} (h : n < lo) : inB n lo hi = false := by
  simp only [inB, decide_eq_false_iff_not]; omega
theorem inB_hi {n lo hi : Int} (h : hi < n) : inB n lo hi = false := by
  simp only [inB, decide_eq_false_iff_not]; omega

theorem within_any (n lo hi : Int) (w : World) : Calls Try.prog 46 #[.int .i64 n, .int .i64 lo, .int .i64 hi] w fun e w' => e = .returned (.bool (inB n lo hi)) ∧ w = w' := by
  by_cases h1 : lo ≤ n
  · by_cases h2 : n ≤ hi
    · have hf := Lib.hid (inB_mk h1 h2)
      go_enter Try.func46, Try.ntmps46
      go_wp2
      go_ret
      exact ⟨by rw [hf.out]; rfl, rfl⟩
    · have hf := Lib.hid (inB_hi (lo := lo) (Int.not_le.1 h2))
      go_enter Try.func46, Try.ntmps46
      go_wp2
      go_ret
      exact ⟨by rw [hf.out]; rfl, rfl⟩
  · have hf := Lib.hid (inB_lo (hi := hi) (Int.not_le.1 h1))
    go_enter Try.func46, Try.ntmps46
    go_wp2
    go_ret
    exact ⟨by rw [hf.out]; rfl, rfl⟩

theorem l1In_any (n lo hi : Int) (w : World) : Calls Try.prog 68 #[.int .i64 n, .int .i64 lo, .int .i64 hi] w fun e w' => e = .returned (.bool (inB n lo hi)) ∧ w = w' := by
  by_cases h1 : lo ≤ n
  · by_cases h2 : n ≤ hi
    · have hf := Lib.hid (inB_mk h1 h2)
      go_enter Try.func68, Try.ntmps68
      go_wp2
      go_ret
      exact ⟨by rw [hf.out]; rfl, rfl⟩
    · have hf := Lib.hid (inB_hi (lo := lo) (Int.not_le.1 h2))
      go_enter Try.func68, Try.ntmps68
      go_wp2
      go_ret
      exact ⟨by rw [hf.out]; rfl, rfl⟩
  · have hf := Lib.hid (inB_lo (hi := hi) (Int.not_le.1 h1))
    go_enter Try.func68, Try.ntmps68
    go_wp2
    go_ret
    exact ⟨by rw [hf.out]; rfl, rfl⟩
end Go.Proofs.Ytnlneblipedddaa

namespace Go.Proofs.Ytnlneblipedddaa
open Go.RowKit

def spotB (x y : Int) : Bool := inB x 0 1280 && inB y 0 672
theorem spotB_yes {x y : Int} (h : spotB x y = true) : 0 ≤ x ∧ x ≤ 1280 ∧ 0 ≤ y ∧ y ≤ 672 := by
  simp only [spotB, Bool.and_eq_true] at h
  have := inB_yes h.1; have := inB_yes h.2; omega

theorem IsSpot_any (x y : Int) (w : World) : Calls Try.prog 80 #[(Value.agg #[Value.int .i64 x, Value.int .i64 y])] w fun e w' => e = .returned (.bool (spotB x y)) ∧ Below w.heap.size w w' := by
  cases h1 : inB x 0 1280 with
  | true =>
    have hf := Lib.hid (show spotB x y = inB y 0 672 by simp [spotB, h1])
    go_enter Try.func80, Try.ntmps80
    go_wp2_with (go_at_call 46; refine (within_any _ _ _ _).mono ?_; rintro e w' ⟨rfl, rfl⟩)
    go_ret
    exact ⟨by rw [hf.out]; rfl, (Below.refl _ _).alloc (Nat.le_refl _) _⟩
  | false =>
    have hf := Lib.hid (show spotB x y = false by simp [spotB, h1])
    go_enter Try.func80, Try.ntmps80
    go_wp2_with (go_at_call 46; refine (within_any _ _ _ _).mono ?_; rintro e w' ⟨rfl, rfl⟩)
    go_ret
    exact ⟨by rw [hf.out]; rfl, (Below.refl _ _).alloc (Nat.le_refl _) _⟩
theorem stGood_any (x y : Int) (w : World) : Calls Try.prog 101 #[(Value.agg #[Value.int .i64 x, Value.int .i64 y])] w fun e w' => e = .returned (.bool (spotB x y)) ∧ Below w.heap.size w w' := by
  cases h1 : inB x 0 1280 with
  | true =>
    have hf := Lib.hid (show spotB x y = inB y 0 672 by simp [spotB, h1])
    go_enter Try.func101, Try.ntmps101
    go_wp2_with (go_at_call 68; refine (l1In_any _ _ _ _).mono ?_; rintro e w' ⟨rfl, rfl⟩)
    go_ret
    exact ⟨by rw [hf.out]; rfl, (Below.refl _ _).alloc (Nat.le_refl _) _⟩
  | false =>
    have hf := Lib.hid (show spotB x y = false by simp [spotB, h1])
    go_enter Try.func101, Try.ntmps101
    go_wp2_with (go_at_call 68; refine (l1In_any _ _ _ _).mono ?_; rintro e w' ⟨rfl, rfl⟩)
    go_ret
    exact ⟨by rw [hf.out]; rfl, (Below.refl _ _).alloc (Nat.le_refl _) _⟩
end Go.Proofs.Ytnlneblipedddaa

namespace Go.Proofs.Ytnlneblipedddaa
open Go.RowKit

/-- The numbers of a transition: n spots, m spots, the counts, p places. -/
structure TrN where
  n : Nat
  xs : List Int
  m : Nat
  ys : List Int
  c : Int
  p : Nat
  ps : List Int
def eqAt (xs : List Int) (i j : Nat) : Bool := (X xs i == X xs j) && (Y xs i == Y xs j)
/-- Spot i is on the field, and no earlier one is the same. -/
def chOk (xs : List Int) (i : Nat) : Bool := spotB (X xs i) (Y xs i) && !(List.range i).any (fun j => eqAt xs j i)
def chB (n : Nat) (xs : List Int) : Bool := inB n 1 12 && (List.range n).all (chOk xs)
def maOk (m : Nat) (ps : List Int) (i : Nat) : Bool := inB (ps.getD i 0) 0 ((m : Int) - 1) && !(List.range i).any (fun j => ps.getD j 0 == ps.getD i 0)
def maB (m p : Nat) (ps : List Int) : Bool := (List.range p).all (maOk m ps) && p == m
def trB (t : TrN) : Bool := chB t.n t.xs && (chB t.m t.ys && (t.n == t.m && (inB t.c 1 64 && maB t.n t.p t.ps)))
/-- The spot that performer i goes to. -/
def plc (t : TrN) (i : Nat) : Nat := (t.ps.getD i 0).toNat
structure TrOk (t : TrN) : Prop where
  n0 : 1 ≤ t.n
  n1 : t.n ≤ 12
  m : t.m = t.n
  p : t.p = t.n
  c0 : 1 ≤ t.c
  c1 : t.c ≤ 64
  from_ : ∀ i, i < t.n → spotB (X t.xs i) (Y t.xs i) = true
  to_ : ∀ i, i < t.n → spotB (X t.ys i) (Y t.ys i) = true
  place : ∀ i, i < t.n → t.ps.getD i 0 = (plc t i : Int) ∧ plc t i < t.n
theorem chB_spot {n : Nat} {xs : List Int} (h : chB n xs = true) : (1 ≤ n ∧ n ≤ 12) ∧ ∀ i, i < n → spotB (X xs i) (Y xs i) = true := by
  simp only [chB, Bool.and_eq_true, List.all_eq_true, List.mem_range] at h
  have := inB_yes h.1
  refine ⟨by omega, fun i hi => ?_⟩
  have := h.2 i hi
  simp only [chOk, Bool.and_eq_true] at this
  exact this.1
theorem tr_ok {t : TrN} (h : trB t = true) : TrOk t := by
  simp only [trB, Bool.and_eq_true, beq_iff_eq] at h
  obtain ⟨h1, h2, h3, h4, h5⟩ := h
  have k1 := chB_spot h1
  have k2 := chB_spot h2
  have k4 := inB_yes h4
  simp only [maB, Bool.and_eq_true, List.all_eq_true, List.mem_range, beq_iff_eq] at h5
  refine ⟨k1.1.1, k1.1.2, h3.symm, h5.2, k4.1, k4.2, k1.2, fun i hi => k2.2 i (by omega), fun i hi => ?_⟩
  have := h5.1 i (by omega)
  simp only [maOk, Bool.and_eq_true] at this
  have := inB_yes this.1
  unfold plc
  omega

/-- The moves of a transition, one behind the other. -/
def mvTo (t : TrN) : Nat → List Int
  | 0 => []
  | i + 1 => mvTo t i ++ [X t.xs i, Y t.xs i, X t.ys (plc t i), Y t.ys (plc t i), t.c]
theorem mvTo_length (t : TrN) : ∀ k, (mvTo t k).length = k * 5
  | 0 => rfl
  | k + 1 => by simp [mvTo, mvTo_length t k]; omega
theorem mvTo_get (t : TrN) (k i : Nat) (hi : i < k) : (mvTo t k).getD (i * 5) 0 = X t.xs i ∧ (mvTo t k).getD (i * 5 + 1) 0 = Y t.xs i ∧ (mvTo t k).getD (i * 5 + 2) 0 = X t.ys (plc t i) ∧
    (mvTo t k).getD (i * 5 + 3) 0 = Y t.ys (plc t i) ∧ (mvTo t k).getD (i * 5 + 4) 0 = t.c := by
  induction k with
  | zero => omega
  | succ k ih =>
    have hl := mvTo_length t k
    have get : ∀ j, (mvTo t (k + 1)).getD j 0 = if j < k * 5 then (mvTo t k).getD j 0 else ([X t.xs k, Y t.xs k, X t.ys (plc t k), Y t.ys (plc t k), t.c] : List Int).getD (j - k * 5) 0 := by
      intro j
      simp only [mvTo, List.getD_eq_getElem?_getD, List.getElem?_append, hl]
      split <;> rfl
    rcases Nat.lt_succ_iff_lt_or_eq.1 hi with h | rfl
    · have := ih h
      simp only [get]
      rw [if_pos (by omega), if_pos (by omega), if_pos (by omega), if_pos (by omega), if_pos (by omega)]
      exact this
    · simp only [get]
      rw [if_neg (by omega), if_neg (by omega), if_neg (by omega), if_neg (by omega), if_neg (by omega)]
      rw [Nat.sub_self, Nat.add_sub_cancel_left, Nat.add_sub_cancel_left, Nat.add_sub_cancel_left, Nat.add_sub_cancel_left]
      exact ⟨rfl, rfl, rfl, rfl, rfl⟩

/-- The way from performer k to performer i, at the begin and at the end. -/
def wpx (t : TrN) (i k : Nat) : Int := X t.xs i - X t.xs k
def wpy (t : TrN) (i k : Nat) : Int := Y t.xs i - Y t.xs k
def wqx (t : TrN) (i k : Nat) : Int := X t.ys (plc t i) - X t.ys (plc t k)
def wqy (t : TrN) (i k : Nat) : Int := Y t.ys (plc t i) - Y t.ys (plc t k)
def apT (t : TrN) (i k : Nat) : Int := lpT (wpx t i k) (wpy t i k) (wqx t i k) (wqy t i k)
def apB (t : TrN) (i k : Nat) : Int := lpB (wpx t i k) (wpy t i k) (wqx t i k) (wqy t i k)
/-- Two performers come closer than a least distance. -/
def cfAt (t : TrN) (L : Int) (i k : Nat) : Bool := decide (apT t i k < L * L * apB t i k)
def clAt (t : TrN) (i k : Nat) : Bool := apT t i k == 0

/-- The pairs (i, k), k from i + 1 on and below d, with a property. -/
def prIn (p : Nat → Nat → Bool) (i : Nat) : Nat → List (List Int)
  | 0 => []
  | d + 1 => prIn p i d ++ (if i < d ∧ p i d = true then [[(i : Int), (d : Int)]] else [])
def prTo (p : Nat → Nat → Bool) (n : Nat) : Nat → List (List Int)
  | 0 => []
  | i + 1 => prTo p n i ++ prIn p i n
theorem prIn_first (p : Nat → Nat → Bool) (i : Nat) : ∀ d, d ≤ i + 1 → prIn p i d = []
  | 0, _ => rfl
  | d + 1, h => by
    rw [prIn, prIn_first p i d (by omega), if_neg (by omega)]; rfl
theorem prIn_yes {p : Nat → Nat → Bool} {i d : Nat} (h : i < d) (hp : p i d = true) : prIn p i (d + 1) = prIn p i d ++ [[(i : Int), (d : Int)]] := by rw [prIn, if_pos ⟨h, hp⟩]
theorem prIn_no {p : Nat → Nat → Bool} {i d : Nat} (hp : p i d = false) : prIn p i (d + 1) = prIn p i d := by rw [prIn, if_neg (by simp [hp])]; simp
theorem prIn_mem {p : Nat → Nat → Bool} {i : Nat} {r : List Int} : ∀ {d : Nat}, r ∈ prIn p i d → ∃ k : Nat, i < k ∧ k < d ∧ p i k = true ∧ r = [(i : Int), (k : Int)]
  | 0, h => by simp [prIn] at h
  | d + 1, h => by
    rw [prIn, List.mem_append] at h
    rcases h with h | h
    · obtain ⟨k, h1, h2, h3, h4⟩ := prIn_mem h
      exact ⟨k, h1, by omega, h3, h4⟩
    · split at h
      · rename_i hc
        simp at h
        exact ⟨d, hc.1, by omega, hc.2, h⟩
      · simp at h
theorem prTo_mem {p : Nat → Nat → Bool} {n : Nat} {r : List Int} : ∀ {a : Nat}, r ∈ prTo p n a → ∃ i k : Nat, i < a ∧ i < k ∧ k < n ∧ p i k = true ∧ r = [(i : Int), (k : Int)]
  | 0, h => by simp [prTo] at h
  | a + 1, h => by
    rw [prTo, List.mem_append] at h
    rcases h with h | h
    · obtain ⟨i, k, h1, h2, h3, h4, h5⟩ := prTo_mem h
      exact ⟨i, k, by omega, h2, h3, h4, h5⟩
    · obtain ⟨k, h1, h2, h3, h4⟩ := prIn_mem h
      exact ⟨a, k, by omega, h1, h2, h3, h4⟩
theorem prIn_len (p : Nat → Nat → Bool) (i : Nat) : ∀ d, (prIn p i d).length ≤ d
  | 0 => by simp [prIn]
  | d + 1 => by
    have := prIn_len p i d
    rw [prIn, List.length_append]
    split <;> simp <;> omega
theorem prTo_len (p : Nat → Nat → Bool) (n : Nat) : ∀ a, (prTo p n a).length ≤ a * n
  | 0 => by simp [prTo]
  | a + 1 => by
    have := prTo_len p n a
    have := prIn_len p a n
    rw [prTo, List.length_append, Nat.succ_mul]
    omega
/-- Few rows, none of them long. -/
def smallRows (rs : List (List Int)) : Prop := rs.length ≤ 1000 ∧ ∀ r ∈ rs, r.length ≤ 1000
end Go.Proofs.Ytnlneblipedddaa

namespace Go.Proofs.Ytnlneblipedddaa
open Go.RowKit
theorem toSpot_exact (x y : Int) (w : World) : Calls Try.prog 57 #[(Value.agg #[Value.int .i64 x, Value.int .i64 y])] w fun e w' => e = .returned (Value.agg #[Value.int .i64 x, Value.int .i64 y]) ∧
    w' = ((w.alloc (.cells #[.int .i64 x, .int .i64 y] 80)).alloc (.cells #[.int .i64 x, .int .i64 y] 75)).alloc (.cells #[.int .i64 x, .int .i64 y] 75) := by
  go_enter Try.func57, Try.ntmps57
  go_wp2
  exact bodyPost_ret (v := (Value.agg #[Value.int .i64 x, Value.int .i64 y])) (by simp [results, Try.results57, go_sem]) rfl ⟨rfl, rfl⟩
theorem toSpot_any (x y : Int) (w : World) : Calls Try.prog 57 #[(Value.agg #[Value.int .i64 x, Value.int .i64 y])] w fun e w' => e = .returned (Value.agg #[Value.int .i64 x, Value.int .i64 y]) ∧ Below w.heap.size w w' :=
  (toSpot_exact x y w).mono fun _ _ ⟨h1, h2⟩ => ⟨h1, by rw [h2]; exact (((Below.refl _ _).alloc (Nat.le_refl _) _).alloc (by simp) _).alloc (by simp; omega) _⟩

end Go.Proofs.Ytnlneblipedddaa

namespace Go.Proofs.Ytnlneblipedddaa
def cpB (t : TrN) (L : Int) : Bool := trB t && inB L 0 80
def cpL (t : TrN) (L : Int) : List (List Int) := if cpB t L = true then prTo (cfAt t L) t.n t.n else []
def cpN (t : TrN) (L : Int) : Nat := (cpL t L).length
theorem cp_no {t : TrN} {L : Int} (h : cpB t L = false) : cpB t L = false ∧ cpL t L = [] ∧ cpN t L = 0 := by simp [cpL, cpN, h]
theorem cp_yes {t : TrN} {L : Int} (h : cpB t L = true) : cpB t L = true ∧ cpL t L = prTo (cfAt t L) t.n t.n ∧ cpN t L = (prTo (cfAt t L) t.n t.n).length := by simp [cpL, cpN, h]
theorem pr_small {p : Nat → Nat → Bool} {n : Nat} (hn : n ≤ 12) : (prTo p n n).length ≤ 144 ∧ ∀ r ∈ prTo p n n, r.length = 2 := by
  have h1 := prTo_len p n n
  have h2 : n * n ≤ 12 * 12 := Nat.mul_le_mul hn hn
  refine ⟨by omega, fun r hr => ?_⟩
  obtain ⟨i, k, _, _, _, _, rfl⟩ := prTo_mem hr
  rfl
theorem cp_small (t : TrN) (L : Int) : smallRows (cpL t L) ∧ cpN t L = (cpL t L).length := by
  refine ⟨?_, rfl⟩
  cases h : cpB t L with
  | false => rw [(cp_no h).2.1]; simp [smallRows]
  | true =>
    rw [(cp_yes h).2.1]
    have ht : trB t = true := by simp only [cpB, Bool.and_eq_true] at h; exact h.1
    have := pr_small (p := cfAt t L) (tr_ok ht).n1
    exact ⟨by omega, fun r hr => by have := this.2 r hr; omega⟩

def clB (t : TrN) : Bool := trB t
def clL (t : TrN) : List (List Int) := if clB t = true then prTo (clAt t) t.n t.n else []
def clN (t : TrN) : Nat := (clL t).length
theorem cl_no {t : TrN} (h : clB t = false) : clB t = false ∧ clL t = [] ∧ clN t = 0 := by simp [clL, clN, h]
theorem cl_yes {t : TrN} (h : clB t = true) : clB t = true ∧ clL t = prTo (clAt t) t.n t.n ∧ clN t = (prTo (clAt t) t.n t.n).length := by simp [clL, clN, h]
theorem cl_small (t : TrN) : smallRows (clL t) ∧ clN t = (clL t).length := by
  refine ⟨?_, rfl⟩
  cases h : clB t with
  | false => rw [(cl_no h).2.1]; simp [smallRows]
  | true =>
    rw [(cl_yes h).2.1]
    have := pr_small (p := clAt t) (tr_ok h).n1
    exact ⟨by omega, fun r hr => by have := this.2 r hr; omega⟩

/-! ### How many conflicts each performer has -/
def bmp (l : List Int) (a : Int) : List Int := l.set a.toNat (l.getD a.toNat 0 + 1)
def ccTo (rs : List (List Int)) (n : Nat) : Nat → List Int
  | 0 => List.replicate n 0
  | k + 1 => bmp (bmp (ccTo rs n k) ((rs.getD k []).getD 0 0)) ((rs.getD k []).getD 1 0)
theorem bmp_length (l : List Int) (a : Int) : (bmp l a).length = l.length := by simp [bmp]
theorem ccTo_length (rs : List (List Int)) (n : Nat) : ∀ k, (ccTo rs n k).length = n
  | 0 => by simp [ccTo]
  | k + 1 => by simp [ccTo, bmp_length, ccTo_length rs n k]
theorem bmp_in {l : List Int} {m a : Int} (h : ∀ j, 0 ≤ l.getD j 0 ∧ l.getD j 0 ≤ m) (j : Nat) : 0 ≤ (bmp l a).getD j 0 ∧ (bmp l a).getD j 0 ≤ m + 1 := by
  have h1 := h j
  have h2 := h a.toNat
  simp only [bmp, List.getD_eq_getElem?_getD, List.getElem?_set] at *
  split
  · split
    · simp only [Option.getD_some]; omega
    · simp only [Option.getD_none]; omega
  · omega
theorem ccTo_in (rs : List (List Int)) (n : Nat) : ∀ k j, 0 ≤ (ccTo rs n k).getD j 0 ∧ (ccTo rs n k).getD j 0 ≤ 2 * k
  | 0, j => by
    simp only [ccTo, List.getD_eq_getElem?_getD, List.getElem?_replicate]
    split <;> simp
  | k + 1, j => by
    have h1 := bmp_in (a := (rs.getD k []).getD 0 0) (ccTo_in rs n k)
    have h2 := bmp_in (a := (rs.getD k []).getD 1 0) h1 j
    simp only [ccTo]
    have : ((k + 1 : Nat) : Int) = (k : Int) + 1 := by omega
    omega
def ccB (t : TrN) (L : Int) : Bool := cpB t L
def ccL (t : TrN) (L : Int) : List Int := if cpB t L = true then ccTo (cpL t L) t.n (cpN t L) else []
def ccN (t : TrN) (L : Int) : Nat := (ccL t L).length
theorem cc_no {t : TrN} {L : Int} (h : cpB t L = false) : ccB t L = false ∧ ccL t L = [] ∧ ccN t L = 0 := by simp [ccB, ccL, ccN, h]
theorem cc_yes {t : TrN} {L : Int} (h : cpB t L = true) : ccB t L = true ∧ ccL t L = ccTo (cpL t L) t.n (cpN t L) ∧ ccN t L = t.n := by simp [ccB, ccL, ccN, h, ccTo_length]
theorem cc_le (t : TrN) (L : Int) : ccN t L ≤ 12 := by
  cases h : cpB t L with
  | false => rw [(cc_no h).2.2]; omega
  | true =>
    rw [(cc_yes h).2.2]
    have ht : trB t = true := by simp only [cpB, Bool.and_eq_true] at h; exact h.1
    exact (tr_ok ht).n1
theorem cc_small (t : TrN) (L : Int) : ccN t L ≤ 1000000 ∧ ccN t L = ccN t L := ⟨by have := cc_le t L; omega, rfl⟩

/-! ### Those without a conflict -/
def fpTo (cs : List Int) : Nat → List Int
  | 0 => []
  | i + 1 => fpTo cs i ++ (if cs.getD i 0 = 0 then [(i : Int)] else [])
theorem fpTo_yes {cs : List Int} {i : Nat} (h : cs.getD i 0 = 0) : fpTo cs (i + 1) = fpTo cs i ++ [(i : Int)] := by rw [fpTo, if_pos h]
theorem fpTo_no {cs : List Int} {i : Nat} (h : cs.getD i 0 ≠ 0) : fpTo cs (i + 1) = fpTo cs i := by rw [fpTo, if_neg h]; simp
theorem fpTo_len (cs : List Int) : ∀ i, (fpTo cs i).length ≤ i
  | 0 => by simp [fpTo]
  | i + 1 => by have := fpTo_len cs i; rw [fpTo, List.length_append]; split <;> simp <;> omega
def fpB (t : TrN) (L : Int) : Bool := cpB t L
def fpL (t : TrN) (L : Int) : List Int := fpTo (ccL t L) (ccN t L)
def fpN (t : TrN) (L : Int) : Nat := (fpL t L).length
theorem fp_no {t : TrN} {L : Int} (h : cpB t L = false) : fpB t L = false ∧ fpL t L = [] ∧ fpN t L = 0 := by
  simp [fpB, fpL, fpN, h, (cc_no h).2.2, fpTo]
theorem fp_yes {t : TrN} {L : Int} (h : cpB t L = true) : fpB t L = true ∧ fpL t L = fpTo (ccL t L) t.n ∧ fpN t L = (fpTo (ccL t L) t.n).length := by simp [fpB, fpL, fpN, h, (cc_yes h).2.2]
theorem fp_small (t : TrN) (L : Int) : fpN t L ≤ 1000000 ∧ fpN t L = fpN t L := by
  refine ⟨?_, rfl⟩
  have := fpTo_len (ccL t L) (ccN t L)
  have := cc_le t L
  unfold fpN fpL; omega

/-! ### When they are closest -/
def tmT (px py qx qy c : Int) : Int := if inMid px py qx qy = true then tmA (-dtOf px py qx qy * c) (szOf px py qx qy) else if qx * qx + qy * qy < px * px + py * py then c else 0
def tmU (px py qx qy : Int) (c : Int) : Int := if inMid px py qx qy = true then tmB (-dtOf px py qx qy * c) (szOf px py qx qy) else 1
def apS (t : TrN) (i k : Nat) : Int := tmT (wpx t i k) (wpy t i k) (wqx t i k) (wqy t i k) t.c
def apU (t : TrN) (i k : Nat) : Int := tmU (wpx t i k) (wpy t i k) (wqx t i k) (wqy t i k) t.c
def r0 (r : List Int) : Nat := (r.getD 0 0).toNat
def r1 (r : List Int) : Nat := (r.getD 1 0).toNat
def ctTo (t : TrN) (rs : List (List Int)) : Nat → List (List Int)
  | 0 => []
  | k + 1 => ctTo t rs k ++ [[(rs.getD k []).getD 0 0, (rs.getD k []).getD 1 0, apS t (r0 (rs.getD k [])) (r1 (rs.getD k [])), apU t (r0 (rs.getD k [])) (r1 (rs.getD k []))]]
theorem ctTo_len (t : TrN) (rs : List (List Int)) : ∀ k, (ctTo t rs k).length = k ∧ ∀ r ∈ ctTo t rs k, r.length = 4
  | 0 => by simp [ctTo]
  | k + 1 => by
    have := ctTo_len t rs k
    refine ⟨by simp [ctTo, this.1], fun r hr => ?_⟩
    rw [ctTo, List.mem_append] at hr
    rcases hr with hr | hr
    · exact this.2 r hr
    · simp at hr; subst hr; rfl
def ctB (t : TrN) (L : Int) : Bool := cpB t L
def ctL (t : TrN) (L : Int) : List (List Int) := ctTo t (cpL t L) (cpN t L)
def ctN (t : TrN) (L : Int) : Nat := (ctL t L).length
theorem ct_no {t : TrN} {L : Int} (h : cpB t L = false) : ctB t L = false ∧ ctL t L = [] ∧ ctN t L = 0 := by simp [ctB, ctL, ctN, h, (cp_no h).2.2, ctTo]
theorem ct_yes {t : TrN} {L : Int} (h : cpB t L = true) : ctB t L = true ∧ ctL t L = ctTo t (cpL t L) (cpN t L) ∧ ctN t L = cpN t L := by simp [ctB, ctL, ctN, h, (ctTo_len t (cpL t L) (cpN t L)).1]
theorem ct_small (t : TrN) (L : Int) : smallRows (ctL t L) ∧ ctN t L = (ctL t L).length := by
  have h1 := ctTo_len t (cpL t L) (cpN t L)
  have h2 := cp_small t L
  refine ⟨⟨?_, fun r hr => ?_⟩, rfl⟩
  · unfold ctL; rw [h1.1, h2.2]; exact h2.1.1
  · have := h1.2 r hr; omega

/-! ### Those who are too near at the begin or at the end -/
def edAt (t : TrN) (L : Int) (r : List Int) : Bool :=
  decide (min (wpx t (r0 r) (r1 r) * wpx t (r0 r) (r1 r) + wpy t (r0 r) (r1 r) * wpy t (r0 r) (r1 r)) (wqx t (r0 r) (r1 r) * wqx t (r0 r) (r1 r) + wqy t (r0 r) (r1 r) * wqy t (r0 r) (r1 r)) < L * L)
def ecTo (t : TrN) (L : Int) (rs : List (List Int)) : Nat → List (List Int)
  | 0 => []
  | k + 1 => ecTo t L rs k ++ (if edAt t L (rs.getD k []) = true then [rs.getD k []] else [])
theorem ecTo_len (t : TrN) (L : Int) (rs : List (List Int)) (h : ∀ r ∈ rs, r.length ≤ 1000) : ∀ k, (ecTo t L rs k).length ≤ k ∧ ∀ r ∈ ecTo t L rs k, r.length ≤ 1000
  | 0 => by simp [ecTo]
  | k + 1 => by
    have := ecTo_len t L rs h k
    have hk : (rs.getD k []).length ≤ 1000 := by
      rw [List.getD_eq_getElem?_getD]
      by_cases hj : k < rs.length
      · rw [List.getElem?_eq_getElem hj]; exact h _ (List.getElem_mem hj)
      · rw [List.getElem?_eq_none (by omega)]; simp
    refine ⟨by rw [ecTo, List.length_append]; split <;> simp <;> omega, fun r hr => ?_⟩
    rw [ecTo, List.mem_append] at hr
    rcases hr with hr | hr
    · exact this.2 r hr
    · split at hr
      · simp at hr; subst hr; exact hk
      · simp at hr
def ecB (t : TrN) (L : Int) : Bool := cpB t L
def ecL (t : TrN) (L : Int) : List (List Int) := ecTo t L (cpL t L) (cpN t L)
def ecN (t : TrN) (L : Int) : Nat := (ecL t L).length
theorem ec_no {t : TrN} {L : Int} (h : cpB t L = false) : ecB t L = false ∧ ecL t L = [] ∧ ecN t L = 0 := by simp [ecB, ecL, ecN, h, (cp_no h).2.2, ecTo]
theorem ec_small (t : TrN) (L : Int) : smallRows (ecL t L) ∧ ecN t L = (ecL t L).length := by
  have h2 := cp_small t L
  have h1 := ecTo_len t L (cpL t L) h2.1.2 (cpN t L)
  have h3 := h2.1.1
  have h4 := h2.2
  refine ⟨⟨?_, h1.2⟩, rfl⟩
  unfold ecL; omega

/-! ### The greatest least distance without a conflict -/
def glAt (t : TrN) (L : Nat) : Bool := (prTo (cfAt t (L : Int)) t.n t.n).length == 0
def glDown (t : TrN) : Nat → Nat
  | 0 => 0
  | k + 1 => if glAt t (k + 1) = true then k + 1 else glDown t k
def glUp (t : TrN) : Nat → Nat
  | 0 => 0
  | l + 1 => if glAt t l = true then l else glUp t l
theorem gl_same (t : TrN) : ∀ k, glUp t (k + 1) = glDown t k
  | 0 => by unfold glUp glDown; split <;> rfl
  | k + 1 => by
    have := gl_same t k
    rw [glUp, this, glDown]
def glB (t : TrN) : Bool := trB t
def glV (t : TrN) : Int := if trB t = true then (glDown t 80 : Int) else 0
theorem gl_no {t : TrN} (h : trB t = false) : glB t = false ∧ glV t = 0 := by simp [glB, glV, h]
theorem gl_yes {t : TrN} (h : trB t = true) : glB t = true ∧ glV t = (glDown t 80 : Int) := by simp [glB, glV, h]

/-! ### The two who come closest -/
def lsAt (t : TrN) (a b : Nat) (s : Nat × Nat) : Bool := decide (apT t a b * apB t s.1 s.2 < apT t s.1 s.2 * apB t a b)
def rmIn (t : TrN) (a : Nat) (s : Nat × Nat) : Nat → Nat × Nat
  | 0 => s
  | d + 1 => if a < d ∧ lsAt t a d (rmIn t a s d) = true then (a, d) else rmIn t a s d
def rmOut (t : TrN) (n : Nat) : Nat → Nat × Nat
  | 0 => (0, 1)
  | a + 1 => rmIn t a (rmOut t n a) n
theorem rmIn_first (t : TrN) (a : Nat) (s : Nat × Nat) : ∀ d, d ≤ a + 1 → rmIn t a s d = s
  | 0, _ => rfl
  | d + 1, h => by rw [rmIn, rmIn_first t a s d (by omega), if_neg (by omega)]
theorem rmIn_yes {t : TrN} {a d : Nat} {s : Nat × Nat} (h : a < d) (hp : lsAt t a d (rmIn t a s d) = true) : rmIn t a s (d + 1) = (a, d) := by rw [rmIn, if_pos ⟨h, hp⟩]
theorem rmIn_no {t : TrN} {a d : Nat} {s : Nat × Nat} (hp : lsAt t a d (rmIn t a s d) = false) : rmIn t a s (d + 1) = rmIn t a s d := by rw [rmIn, if_neg (by simp [hp])]
theorem rmIn_lt {t : TrN} {a n : Nat} {s : Nat × Nat} (hs : s.1 < s.2 ∧ s.2 < n) : ∀ d, d ≤ n → (rmIn t a s d).1 < (rmIn t a s d).2 ∧ (rmIn t a s d).2 < n
  | 0, _ => hs
  | d + 1, h => by
    rw [rmIn]
    split
    · rename_i hc; exact ⟨hc.1, by omega⟩
    · exact rmIn_lt hs d (by omega)
theorem rmOut_lt {t : TrN} {n : Nat} (hn : 2 ≤ n) : ∀ a, (rmOut t n a).1 < (rmOut t n a).2 ∧ (rmOut t n a).2 < n
  | 0 => ⟨by simp [rmOut], by simp [rmOut]; omega⟩
  | a + 1 => by rw [rmOut]; exact rmIn_lt (rmOut_lt hn a) n (Nat.le_refl _)
def roB (t : TrN) : Bool := trB t && decide (2 ≤ t.n)
def roA (t : TrN) : Int := if roB t = true then apT t (rmOut t t.n t.n).1 (rmOut t t.n t.n).2 else 0
def roC (t : TrN) : Int := if roB t = true then apB t (rmOut t t.n t.n).1 (rmOut t t.n t.n).2 else 0
theorem ro_no {t : TrN} (h : roB t = false) : roB t = false ∧ roA t = 0 ∧ roC t = 0 := by simp [roA, roC, h]
theorem ro_yes {t : TrN} (h : roB t = true) : roB t = true ∧ roA t = apT t (rmOut t t.n t.n).1 (rmOut t t.n t.n).2 ∧ roC t = apB t (rmOut t t.n t.n).1 (rmOut t t.n t.n).2 := by simp [roA, roC, h]
end Go.Proofs.Ytnlneblipedddaa

namespace Go.Proofs.Ytnlneblipedddaa
def orb (l : List Int) (i k : Nat) : List Int := l.set i (((l.getD i 0).toNat ||| 2 ^ k : Nat) : Int)
def smTo (rs : List (List Int)) (n : Nat) : Nat → List Int
  | 0 => List.replicate n 0
  | j + 1 => orb (orb (smTo rs n j) (r0 (rs.getD j [])) (r1 (rs.getD j []))) (r1 (rs.getD j [])) (r0 (rs.getD j []))
/-- Is b in the set of a? -/
def qS (l : List Int) (a b : Nat) : Bool := (l.getD a 0).toNat.testBit b
def maskIn (l : List Int) : Prop := ∀ i, 0 ≤ l.getD i 0 ∧ l.getD i 0 < 4096
theorem orb_length (l : List Int) (i k : Nat) : (orb l i k).length = l.length := by simp [orb]
theorem smTo_length (rs : List (List Int)) (n : Nat) : ∀ j, (smTo rs n j).length = n
  | 0 => by simp [smTo]
  | j + 1 => by simp [smTo, orb_length, smTo_length rs n j]
theorem orb_get (l : List Int) (i k a : Nat) : (orb l i k).getD a 0 = if a = i ∧ i < l.length then (((l.getD i 0).toNat ||| 2 ^ k : Nat) : Int) else l.getD a 0 := by
  simp only [orb, List.getD_eq_getElem?_getD, List.getElem?_set]
  by_cases h : i = a
  · subst h
    by_cases h2 : i < l.length
    · simp [h2]
    · simp [h2, List.getElem?_eq_none (Nat.le_of_not_lt h2)]
  · simp [h, Ne.symm h]
theorem orb_in {l : List Int} {i k : Nat} (h : maskIn l) (hk : k < 12) : maskIn (orb l i k) := by
  intro a
  rw [orb_get]
  split
  · have h1 := h i
    have h2 : 2 ^ k < 2 ^ 12 := Nat.pow_lt_pow_right (by decide) hk
    have h3 : ((l.getD i 0).toNat ||| 2 ^ k) < 2 ^ 12 := Nat.or_lt_two_pow (by omega) h2
    omega
  · exact h a
theorem orb_bit {l : List Int} {i k : Nat} (h : i < l.length) (a b : Nat) : qS (orb l i k) a b = (qS l a b || (decide (a = i) && decide (k = b))) := by
  unfold qS
  rw [orb_get]
  by_cases ha : a = i
  · subst ha
    rw [if_pos ⟨rfl, h⟩]
    show (_ ||| 2 ^ k).testBit b = _
    rw [Nat.testBit_or, Nat.testBit_two_pow]
    simp
  · rw [if_neg (by simp [ha])]
    simp [ha]
theorem smTo_in {rs : List (List Int)} {n m : Nat} (h : ∀ j, j < m → r0 (rs.getD j []) < 12 ∧ r1 (rs.getD j []) < 12) : ∀ {j}, j ≤ m → maskIn (smTo rs n j)
  | 0, _ => fun i => by
    simp only [smTo, List.getD_eq_getElem?_getD, List.getElem?_replicate]
    split <;> simp
  | j + 1, hj => by
    have := h j (by omega)
    exact orb_in (orb_in (smTo_in h (by omega)) this.2) this.1
theorem smTo_bit {rs : List (List Int)} {n m : Nat} (h : ∀ j, j < m → r0 (rs.getD j []) < n ∧ r1 (rs.getD j []) < n) (a b : Nat) : ∀ {j}, j ≤ m →
    (qS (smTo rs n j) a b = true ↔ ∃ i, i < j ∧ ((a = r0 (rs.getD i []) ∧ r1 (rs.getD i []) = b) ∨ (a = r1 (rs.getD i []) ∧ r0 (rs.getD i []) = b)))
  | 0, _ => by
    constructor
    · intro hq
      have e : (smTo rs n 0).getD a 0 = 0 := by
        simp only [smTo, List.getD_eq_getElem?_getD, List.getElem?_replicate]
        split <;> simp
      unfold qS at hq
      rw [e] at hq
      simp at hq
    · rintro ⟨i, hi, _⟩; omega
  | j + 1, hj => by
    have h1 := h j (by omega)
    have ih := smTo_bit h a b (j := j) (by omega)
    have hl := smTo_length rs n j
    rw [smTo, orb_bit (by rw [orb_length, hl]; exact h1.2), orb_bit (by rw [hl]; exact h1.1)]
    simp only [Bool.or_eq_true, Bool.and_eq_true, decide_eq_true_eq, ih]
    constructor
    · rintro ((⟨i, hi, h⟩ | h) | h)
      · exact ⟨i, by omega, h⟩
      · exact ⟨j, by omega, .inl h⟩
      · exact ⟨j, by omega, .inr h⟩
    · rintro ⟨i, hi, h⟩
      by_cases e : i = j
      · subst e
        rcases h with h | h
        · exact .inl (.inr h)
        · exact .inr h
      · exact .inl (.inl ⟨i, by omega, h⟩)
theorem prIn_has {p : Nat → Nat → Bool} {i k : Nat} (h : i < k) (hp : p i k = true) : ∀ {d}, k < d → [(i : Int), (k : Int)] ∈ prIn p i d
  | 0, hd => by omega
  | d + 1, hd => by
    rw [prIn, List.mem_append]
    by_cases e : k = d
    · subst e; right; rw [if_pos ⟨h, hp⟩]; simp
    · left; exact prIn_has h hp (by omega)
theorem prTo_has {p : Nat → Nat → Bool} {n i k : Nat} (h : i < k) (hk : k < n) (hp : p i k = true) : ∀ {a}, i < a → [(i : Int), (k : Int)] ∈ prTo p n a
  | 0, ha => by omega
  | a + 1, ha => by
    rw [prTo, List.mem_append]
    by_cases e : i = a
    · subst e; right; exact prIn_has h hp hk
    · left; exact prTo_has h hk hp (by omega)
theorem pair_at {p : Nat → Nat → Bool} {n j : Nat} (h : j < (prTo p n n).length) : r0 ((prTo p n n).getD j []) < r1 ((prTo p n n).getD j []) ∧ r1 ((prTo p n n).getD j []) < n ∧ p (r0 ((prTo p n n).getD j [])) (r1 ((prTo p n n).getD j [])) = true := by
  obtain ⟨i, k, _, h2, h3, h4, h5⟩ := prTo_mem (List.getElem_mem h)
  have e : (prTo p n n).getD j [] = [(i : Int), (k : Int)] := by rw [List.getD_eq_getElem?_getD, List.getElem?_eq_getElem h]; exact h5
  rw [e]
  exact ⟨by simpa [r0, r1] using h2, by simpa [r1] using h3, by simpa [r0, r1] using h4⟩
theorem pair_has {p : Nat → Nat → Bool} {n i k : Nat} (h : i < k) (hk : k < n) (hp : p i k = true) : ∃ j, j < (prTo p n n).length ∧ r0 ((prTo p n n).getD j []) = i ∧ r1 ((prTo p n n).getD j []) = k := by
  obtain ⟨j, hj, e⟩ := List.getElem_of_mem (prTo_has h hk hp (a := n) (by omega))
  refine ⟨j, hj, ?_⟩
  have e2 : (prTo p n n).getD j [] = [(i : Int), (k : Int)] := by rw [List.getD_eq_getElem?_getD, List.getElem?_eq_getElem hj]; exact e
  rw [e2]
  simp [r0, r1]
/-- All sets of a good transition's conflicts. -/
def smAll (p : Nat → Nat → Bool) (n : Nat) : List Int := smTo (prTo p n n) n (prTo p n n).length
theorem smAll_in {p : Nat → Nat → Bool} {n : Nat} (hn : n ≤ 12) {j : Nat} (hj : j ≤ (prTo p n n).length) : maskIn (smTo (prTo p n n) n j) :=
  smTo_in (m := (prTo p n n).length) (fun j hj => by have := pair_at hj; omega) hj
theorem smAll_bit {p : Nat → Nat → Bool} {n i k : Nat} (h : i < k) (hk : k < n) : qS (smAll p n) k i = p i k := by
  have hb := smTo_bit (rs := prTo p n n) (n := n) (m := (prTo p n n).length) (fun j hj => by have := pair_at hj; omega) k i (Nat.le_refl _)
  rw [Bool.eq_iff_iff]
  refine hb.trans ⟨?_, fun hp => ?_⟩
  · rintro ⟨j, hj, h1 | h1⟩
    · have := pair_at hj; omega
    · have := (pair_at hj).2.2
      rwa [h1.2, ← h1.1] at this
  · obtain ⟨j, hj, h1, h2⟩ := pair_has h hk hp
    exact ⟨j, hj, .inr ⟨h2.symm, h1⟩⟩
/-- No pair lies within a set. -/
def frTo (rs : List (List Int)) (s : Nat) : Nat → Bool
  | 0 => true
  | j + 1 => if s.testBit (r0 (rs.getD j [])) = true ∧ s.testBit (r1 (rs.getD j [])) = true then false else frTo rs s j
theorem frTo_iff {rs : List (List Int)} {s : Nat} : ∀ {j}, frTo rs s j = true ↔ ∀ i, i < j → ¬ (s.testBit (r0 (rs.getD i [])) = true ∧ s.testBit (r1 (rs.getD i [])) = true)
  | 0 => ⟨fun _ i hi => absurd hi (by omega), fun _ => rfl⟩
  | j + 1 => by
    rw [frTo]
    split
    · rename_i h
      exact ⟨fun h => (by cases h), fun h2 => absurd h (h2 j (by omega))⟩
    · rename_i h
      rw [frTo_iff]
      constructor
      · intro h2 i hi
        by_cases e : i = j
        · subst e; exact h
        · exact h2 i (by omega)
      · intro h2 i hi; exact h2 i (by omega)
theorem fr_free (p : Nat → Nat → Bool) (n s : Nat) : frTo (prTo p n n) s (prTo p n n).length = freeS (qS (smAll p n)) n s := by
  rw [Bool.eq_iff_iff, frTo_iff, freeS_iff]
  constructor
  · intro h i k hik hk hi hk2
    rw [smAll_bit hik hk]
    cases hp : p i k with
    | false => rfl
    | true =>
      obtain ⟨j, hj, h1, h2⟩ := pair_has hik hk hp
      exact absurd ⟨by rw [h1]; exact hi, by rw [h2]; exact hk2⟩ (h j hj)
  · intro h j hj hc
    have hp := pair_at hj
    have := h _ _ hp.1 hp.2.1 hc.1 hc.2
    rw [smAll_bit hp.1 hp.2.1, hp.2.2] at this
    cases this
theorem set_any {l : List Int} {T : List Nat} {f : Nat} : ((l.getD f 0).toNat &&& maskOf T = 0) ↔ T.any (qS l f) = false := by
  constructor
  · intro h
    rw [Bool.eq_false_iff]
    intro ha
    obtain ⟨j, hj, hq⟩ := List.any_eq_true.1 ha
    have : ((l.getD f 0).toNat &&& maskOf T).testBit j = true := by
      rw [Nat.testBit_and, Bool.and_eq_true]
      exact ⟨hq, (maskOf_bit T j).2 hj⟩
    rw [h] at this
    simp at this
  · intro h
    apply Nat.eq_of_testBit_eq
    intro j
    rw [Nat.testBit_and, Nat.zero_testBit, Bool.and_eq_false_iff]
    cases hm : (maskOf T).testBit j with
    | false => exact .inr rfl
    | true =>
      have := List.any_eq_false.1 h j ((maskOf_bit T j).1 hm)
      left
      simpa [qS] using this
/-- The list as the program holds it. -/
def nats (l : List Nat) : List Int := l.map fun x : Nat => (x : Int)
theorem nats_length (l : List Nat) : (nats l).length = l.length := by simp [nats]
theorem nats_get (l : List Nat) (i : Nat) : (nats l).getD i 0 = (l.getD i 0 : Nat) := by
  simp only [nats, List.getD_eq_getElem?_getD, List.getElem?_map]
  cases l[i]? <;> rfl
theorem setL_more {n m s : Nat} (hs : s < 2 ^ n) (hm : n ≤ m) : setL m s = setL n s := by
  refine asc_ext (setL_asc _ _) (setL_asc _ _) fun x => ?_
  rw [setL_mem, setL_mem]
  constructor
  · rintro ⟨_, h⟩
    refine ⟨?_, h⟩
    rcases Nat.lt_or_ge x n with h1 | h1
    · exact h1
    · rw [Nat.testBit_lt_two_pow (Nat.lt_of_lt_of_le hs (Nat.pow_le_pow_right (by decide) h1))] at h; cases h
  · rintro ⟨h1, h⟩; exact ⟨by omega, h⟩
theorem setL_succ (n s : Nat) : setL (n + 1) s = setL n s ++ (if s.testBit n = true then [n] else []) := by
  unfold setL
  rw [List.range_succ, List.filter_append]
  congr 1
  by_cases h : s.testBit n = true <;> simp [h]
theorem setL_len (n s : Nat) : (setL n s).length ≤ n := by
  unfold setL
  have := List.length_filter_le (fun i => s.testBit i) (List.range n)
  simpa using this
/-- One list comes before another one: the first place at which they differ. -/
theorem bf_at : ∀ {k : Nat} {a b : List Nat}, a.length = b.length → k ≤ a.length → (∀ j, j < k → a.getD j 0 = b.getD j 0) → (k = a.length → bf a b = false) ∧ (k < a.length → a.getD k 0 ≠ b.getD k 0 → bf a b = decide (a.getD k 0 < b.getD k 0))
  | _, [], [], _, hk, _ => ⟨fun _ => rfl, fun h => absurd h (by simp)⟩
  | 0, x :: a, y :: b, hl, _, _ => by
    refine ⟨fun h => by simp at h, fun _ hne => ?_⟩
    simp at hne ⊢
    simp [bf, hne]
  | k + 1, x :: a, y :: b, hl, hk, h => by
    have h0 : x = y := h 0 (by omega)
    subst h0
    have ih := bf_at (k := k) (a := a) (b := b) (by simpa using hl) (by simpa using hk) (fun j hj => by simpa using h (j + 1) (by omega))
    refine ⟨fun he => ?_, fun hlt hne => ?_⟩
    · have := ih.1 (by simpa using he)
      simp [bf, this]
    · have := ih.2 (by simpa using hlt) (by simpa using hne)
      simp [bf, this]
end Go.Proofs.Ytnlneblipedddaa

namespace Go.Proofs.Ytnlneblipedddaa
def clTo (rs : List (List Int)) (n : Nat) : Nat → List (List Nat)
  | 0 => List.replicate n []
  | j + 1 => (clTo rs n j).set (r1 (rs.getD j [])) ((clTo rs n j).getD (r1 (rs.getD j [])) [] ++ [r0 (rs.getD j [])])
theorem clTo_length (rs : List (List Int)) (n : Nat) : ∀ j, (clTo rs n j).length = n
  | 0 => by simp [clTo]
  | j + 1 => by simp [clTo, clTo_length rs n j]
theorem rows_put {l : List (List Nat)} {i : Nat} {x : List Nat} (hi : i < l.length) (j : Nat) : (l.set i x).getD j [] = if j = i then x else l.getD j [] := by
  simp only [List.getD_eq_getElem?_getD, List.getElem?_set]
  by_cases h : i = j
  · subst h; simp [hi]
  · simp [h, Ne.symm h]
theorem clTo_len {rs : List (List Int)} {n m : Nat} (h : ∀ j, j < m → r1 (rs.getD j []) < n) : ∀ {j}, j ≤ m → ∀ i, ((clTo rs n j).getD i []).length ≤ j
  | 0, _, i => by
    simp only [clTo, List.getD_eq_getElem?_getD, List.getElem?_replicate]
    split <;> simp
  | j + 1, hj, i => by
    have ih := clTo_len h (j := j) (by omega)
    rw [clTo, rows_put (by rw [clTo_length]; exact h j (by omega))]
    split
    · have := ih (r1 (rs.getD j []))
      rw [List.length_append]; simp only [List.length_singleton]; omega
    · have := ih i; omega
theorem clTo_mem {rs : List (List Int)} {n m : Nat} (h : ∀ j, j < m → r1 (rs.getD j []) < n) (i x : Nat) : ∀ {j}, j ≤ m → (x ∈ (clTo rs n j).getD i [] ↔ ∃ a, a < j ∧ r1 (rs.getD a []) = i ∧ r0 (rs.getD a []) = x)
  | 0, _ => by
    constructor
    · intro hx
      simp only [clTo, List.getD_eq_getElem?_getD, List.getElem?_replicate] at hx
      split at hx <;> simp at hx
    · rintro ⟨a, ha, _⟩; omega
  | j + 1, hj => by
    have ih := clTo_mem h i x (j := j) (by omega)
    rw [clTo, rows_put (by rw [clTo_length]; exact h j (by omega))]
    by_cases e : i = r1 (rs.getD j [])
    · rw [if_pos e, List.mem_append, ← e, ih]
      constructor
      · rintro (⟨a, ha, h1⟩ | h1)
        · exact ⟨a, by omega, h1⟩
        · exact ⟨j, by omega, e.symm, (List.mem_singleton.1 h1).symm⟩
      · rintro ⟨a, ha, h1, h2⟩
        by_cases ea : a = j
        · subst ea; right; exact List.mem_singleton.2 h2.symm
        · exact .inl ⟨a, by omega, h1, h2⟩
    · rw [if_neg e, ih]
      constructor
      · rintro ⟨a, ha, h1⟩; exact ⟨a, by omega, h1⟩
      · rintro ⟨a, ha, h1, h2⟩
        by_cases ea : a = j
        · subst ea; exact absurd h1.symm e
        · exact ⟨a, by omega, h1, h2⟩
def clAll (p : Nat → Nat → Bool) (n : Nat) : List (List Nat) := clTo (prTo p n n) n (prTo p n n).length
theorem clAll_len {p : Nat → Nat → Bool} {n : Nat} (hn : n ≤ 12) (i : Nat) : ((clAll p n).getD i []).length ≤ 144 := by
  have := clTo_len (rs := prTo p n n) (n := n) (m := (prTo p n n).length) (fun j hj => (pair_at hj).2.1) (Nat.le_refl _) i
  have := (pr_small (p := p) hn).1
  unfold clAll; omega
/-- Those in conflict with a performer. -/
theorem clAll_mem {p : Nat → Nat → Bool} {n i : Nat} (hi : i < n) (x : Nat) : x ∈ (clAll p n).getD i [] ↔ x < i ∧ qS (smAll p n) i x = true := by
  have hb := clTo_mem (rs := prTo p n n) (n := n) (m := (prTo p n n).length) (fun j hj => (pair_at hj).2.1) i x (Nat.le_refl _)
  refine hb.trans ⟨?_, ?_⟩
  · rintro ⟨a, ha, h1, h2⟩
    have := pair_at ha
    rw [h1, h2] at this
    refine ⟨this.1, ?_⟩
    rw [smAll_bit this.1 hi]; exact this.2.2
  · rintro ⟨h1, h2⟩
    rw [smAll_bit h1 hi] at h2
    obtain ⟨j, hj, h3, h4⟩ := pair_has h1 hi h2
    exact ⟨j, hj, h4, h3⟩
/-- One of the first j of a list has a wave. -/
def chTo (cl : List Nat) (h : List Nat) (w : Nat) : Nat → Bool
  | 0 => false
  | j + 1 => chTo cl h w j || (h.getD (cl.getD j 0) 0 == w)
theorem chTo_iff {cl h : List Nat} {w : Nat} : ∀ {j}, j ≤ cl.length → (chTo cl h w j = true ↔ ∃ x, x ∈ cl.take j ∧ h.getD x 0 = w)
  | 0, _ => by simp [chTo]
  | j + 1, hj => by
    rw [chTo, Bool.or_eq_true, chTo_iff (by omega), beq_iff_eq]
    have e : cl.take (j + 1) = cl.take j ++ [cl.getD j 0] := by
      rw [List.take_add_one, List.getElem?_eq_getElem (by omega), List.getD_eq_getElem?_getD, List.getElem?_eq_getElem (by omega)]; rfl
    rw [e]
    constructor
    · rintro (⟨x, hx, h1⟩ | h1)
      · exact ⟨x, by simp [hx], h1⟩
      · exact ⟨cl.getD j 0, by simp, h1⟩
    · rintro ⟨x, hx, h1⟩
      rw [List.mem_append] at hx
      rcases hx with hx | hx
      · exact .inl ⟨x, hx, h1⟩
      · simp only [List.mem_singleton] at hx; subst hx; exact .inr h1
theorem ch_free {q : Nat → Nat → Bool} {cl h : List Nat} {w : Nat} (hc : ∀ x, x ∈ cl ↔ x < h.length ∧ q h.length x = true) : wFree q h w = !(chTo cl h w cl.length) := by
  cases hch : chTo cl h w cl.length with
  | true =>
    obtain ⟨x, hx, h1⟩ := (chTo_iff (Nat.le_refl _)).1 hch
    rw [List.take_length] at hx
    have := (hc x).1 hx
    show _ = false
    rw [Bool.eq_false_iff]
    intro hf
    exact wFree_iff.1 hf x this.1 this.2 h1
  | false =>
    show _ = true
    rw [wFree_iff]
    intro j hj hq he
    have : chTo cl h w cl.length = true := (chTo_iff (Nat.le_refl _)).2 ⟨j, by rw [List.take_length]; exact (hc j).2 ⟨hj, hq⟩, he⟩
    rw [hch] at this; cases this
theorem fwS_length {q : Nat → Nat → Bool} {m : Nat} : ∀ {k : Nat} {h r : List Nat}, fwS q m k h = some r → r.length = h.length + k
  | 0, h, r, hr => by simp only [fwS, Option.some.injEq] at hr; subst hr; rfl
  | k + 1, h, r, hr => by
    have key : ∀ v w r, fwTry q m (fwS q m k) h v w = some r → r.length = h.length + (k + 1) := by
      intro v
      induction v with
      | zero => intro w r hr; simp [fwTry] at hr
      | succ v ih =>
        intro w r hr
        rw [fwTry] at hr
        split at hr
        · split at hr
          · rename_i r' h1
            cases hr
            have := fwS_length h1
            simp at this; omega
          · split at hr
            · exact ih _ _ hr
            · cases hr
        · exact ih _ _ hr
    exact key m 0 r hr
end Go.Proofs.Ytnlneblipedddaa

namespace Go.Proofs.Ytnlneblipedddaa
open Go.RowKit

/-- The first k numbers lie in a range. -/
def okTo (lo hi : Int) (xs : List Int) (k : Nat) : Prop := ∀ i, i < k → lo ≤ xs.getD i 0 ∧ xs.getD i 0 ≤ hi
def okAll (lo hi : Int) (xs : List Int) : Bool := xs.all fun x => inB x lo hi
theorem okAll_yes {lo hi : Int} {xs : List Int} (h : okAll lo hi xs = true) : okTo lo hi xs xs.length := by
  intro i hi'
  simp only [okAll, List.all_eq_true] at h
  have := h _ (List.getElem_mem hi')
  simpa [List.getD, hi'] using inB_yes this
theorem okAll_mk {lo hi : Int} {xs : List Int} (h : okTo lo hi xs xs.length) : okAll lo hi xs = true := by
  simp only [okAll, List.all_eq_true]
  intro x hx
  obtain ⟨i, hi', rfl⟩ := List.getElem_of_mem hx
  have := h i hi'
  simp only [List.getD, List.getElem?_eq_getElem hi', Option.getD_some] at this
  exact inB_mk this.1 this.2
theorem okAll_no {lo hi : Int} {xs : List Int} {i : Nat} (hi' : i < xs.length) (h : xs.getD i 0 < lo ∨ hi < xs.getD i 0) : okAll lo hi xs = false := by
  cases hh : okAll lo hi xs with
  | false => rfl
  | true => have := okAll_yes hh i hi'; omega

set_option maxHeartbeats 400000 in
theorem l1All_any (v : Value) (n B : Nat) (xs : List Int) (lo hi : Int) (w : World) (hv : Rd w B 1 v n xs) (hn : n ≤ 1099511627776) :
    Calls Try.prog 94 #[v, .int .i64 lo, .int .i64 hi] w fun e w' => e = .returned (.bool (okAll lo hi xs)) ∧ w = w' := by
  obtain ⟨hl, A, c, rfl, hA⟩ := hv
  rw [Nat.mul_one] at hl
  have Hl := Lib.hid hl
  clear hl
  go_enter Try.func94, Try.ntmps94
  go_wp2
  go_loop [11] (fun i => ∃ k : Nat, k ≤ n ∧ i = .int .i64 k ∧ okTo lo hi xs k) (fun i => n - (intOf i).toNat)
  case atStart => exact ⟨0, Nat.zero_le _, rfl, fun i h => absurd h (by omega)⟩
  case round =>
    obtain ⟨k, hk, rfl, hok⟩ := hrel
    have HK := Lib.hid hok
    clear hok
    by_cases hlt : k < n
    · obtain ⟨b, off, rfl, hbB, hc⟩ := hA (by omega)
      have hcell := hc k (by omega)
      obtain ⟨x, hx⟩ : ∃ x, xs.getD k 0 = x := ⟨_, rfl⟩
      rw [hx] at hcell
      have Hx := Lib.hid hx
      clear hc hA hx
      cases hin : inB x lo hi with
      | true =>
        have Hin := Lib.hid hin
        go_wp2_with (go_at_call 68; refine (l1In_any _ _ _ _).mono ?_; rintro e w' ⟨rfl, rfl⟩)
        go_round
        case rel =>
          refine ⟨k + 1, by omega, by go_num, fun i hi' => ?_⟩
          rcases Nat.lt_succ_iff_lt_or_eq.1 hi' with h | rfl
          · exact HK.out i h
          · rw [Hx.out]; exact inB_yes Hin.out
        case measure => simp [intOf]; omega
      | false =>
        have HF := Lib.hid (okAll_no (lo := lo) (hi := hi) (xs := xs) (i := k) (by rw [Hl.out]; exact hlt) (by rw [Hx.out]; exact inB_no hin))
        go_wp2_with (go_at_call 68; refine (l1In_any _ _ _ _).mono ?_; rintro e w' ⟨rfl, rfl⟩)
        go_ret
        exact ⟨by rw [HF.out]; rfl, rfl⟩
    · have HF := Lib.hid (okAll_mk (lo := lo) (hi := hi) (xs := xs) (by rw [Hl.out]; have : k = n := by omega
                                                                        rw [← this]; exact HK.out))
      clear hA
      go_wp2
      go_ret
      exact ⟨by rw [HF.out]; rfl, rfl⟩

end Go.Proofs.Ytnlneblipedddaa
