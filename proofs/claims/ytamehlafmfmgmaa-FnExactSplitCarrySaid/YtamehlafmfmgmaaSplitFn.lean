/- A carry that is split at a count: plain laws. Without conditions. -/
import Derived.Test.YtamehlafmfmgmaaSymFn
namespace Go.Proofs.Ytamehlafmfmgmaa
open Go.RowKit

theorem flat_cars : ∀ (n : Nat) (xs : List Int), xs.length = n * 4 → flat (cars n xs) = xs
  | 0, xs, h => by
    obtain rfl : xs = [] := List.length_eq_zero_iff.1 (by omega)
    rfl
  | n + 1, xs, h => by
    match xs, h with
    | [], h => simp at h
    | [_], h => simp only [List.length_cons, List.length_nil] at h; omega
    | [_, _], h => simp only [List.length_cons, List.length_nil] at h; omega
    | [_, _, _], h => simp only [List.length_cons, List.length_nil] at h; omega
    | a :: b :: c :: d :: t, h =>
      have ih := flat_cars n t (by simp only [List.length_cons] at h; omega)
      have e : cars (n + 1) (a :: b :: c :: d :: t) = (a, b, c, d) :: cars n t := by
        unfold cars
        rw [List.range_succ_eq_map, List.map_cons, List.map_map]
        congr 1
        apply List.map_congr_left
        intro k _
        show carAt (a :: b :: c :: d :: t) (k + 1) = carAt t k
        simp only [carAt, cP, cL, cF, cT, show (k + 1) * 4 = k * 4 + 1 + 1 + 1 + 1 by omega, List.getD_cons_succ, show k * 4 + 1 + 1 + 1 + 1 + 1 = (k * 4 + 1) + 1 + 1 + 1 + 1 by omega, show k * 4 + 1 + 1 + 1 + 1 + 2 = (k * 4 + 2) + 1 + 1 + 1 + 1 by omega, show k * 4 + 1 + 1 + 1 + 1 + 3 = (k * 4 + 3) + 1 + 1 + 1 + 1 by omega]
      rw [e, flat_cons, ih]
theorem cars_length (n : Nat) (xs : List Int) : (cars n xs).length = n := by simp [cars]
/-- Whether a carry may be split so. -/
def spQ (n : Nat) (xs : List Int) (i t p : Int) : Bool := gcB n xs && (inB i 0 ((n : Int) - 1) && (inB p 1 12 && (inB t (cF xs i.toNat + 1) (cT xs i.toNat - 1) && !(cP xs i.toNat == p))))
def spX (xs : List Int) (k : Nat) (t p : Int) : List Int := (xs ++ [p, cL xs k, t, cT xs k]).set (k * 4 + 3) t
def spB (n : Nat) (xs : List Int) (i t p : Int) : Bool := spQ n xs i t p && csB (n + 1) (spX xs i.toNat t p)
def spL (n : Nat) (xs : List Int) (i t p : Int) : List Int := if spB n xs i t p = true then csTo (spX xs i.toNat t p) (n + 1) else []
def spN (n : Nat) (xs : List Int) (i t p : Int) : Nat := if spB n xs i t p = true then n + 1 else 0
theorem spN_le (n : Nat) (xs : List Int) (i t p : Int) : spN n xs i t p ≤ n + 1 := by unfold spN; split <;> omega
section
variable {n : Nat} {xs : List Int} {i t p : Int}
theorem sp_no (h : spB n xs i t p = false) : spB n xs i t p = false ∧ spL n xs i t p = [] ∧ spN n xs i t p = 0 := by
  have h2 : ¬ spB n xs i t p = true := by rw [h]; simp
  exact ⟨h, by rw [spL, if_neg h2], by rw [spN, if_neg h2]⟩
theorem sp_no1 (h : gcB n xs = false) : spB n xs i t p = false := by simp [spB, spQ, h]
theorem sp_no2 (h : inB i 0 ((n : Int) - 1) = false) : spB n xs i t p = false := by simp [spB, spQ, h]
theorem sp_no3 (h : inB p 1 12 = false) : spB n xs i t p = false := by simp [spB, spQ, h]
theorem sp_no4 {k : Nat} (h : inB t (cF xs k + 1) (cT xs k - 1) = false) : spB n xs (k : Int) t p = false := by simp [spB, spQ, h]
theorem sp_no5 {k : Nat} (h : (cP xs k == p) = true) : spB n xs (k : Int) t p = false := by
  have : (cP xs (k : Int).toNat == p) = true := h
  simp only [spB, spQ, this, Bool.not_true, Bool.and_false, Bool.false_and]
theorem sp_yes {k : Nat} (h1 : gcB n xs = true) (h2 : inB (k : Int) 0 ((n : Int) - 1) = true) (h3 : inB p 1 12 = true) (h4 : inB t (cF xs k + 1) (cT xs k - 1) = true) (h5 : (cP xs k == p) = false) :
    spB n xs (k : Int) t p = csB (n + 1) (spX xs k t p) ∧ spL n xs (k : Int) t p = csL (n + 1) (spX xs k t p) ∧ spN n xs (k : Int) t p = csN (n + 1) (spX xs k t p) := by
  have e : spB n xs (k : Int) t p = csB (n + 1) (spX xs k t p) := by
    simp only [spB, spQ, Int.toNat_natCast, h1, h2, h3, h4, h5, Bool.not_false, Bool.true_and]
  exact ⟨e, by rw [spL, e, csL, Int.toNat_natCast], by rw [spN, e, csN]⟩
theorem spX_length {k : Nat} (hl : xs.length = n * 4) : (spX xs k t p).length = (n + 1) * 4 := by
  simp only [spX, List.length_set, List.length_append, hl, List.length_cons, List.length_nil]; omega
theorem spX_flat {k : Nat} (hl : xs.length = n * 4) (hk : k < n) : spX xs k t p = flat (((cars n xs).set k (cP xs k, cL xs k, cF xs k, t)) ++ [(p, cL xs k, t, cT xs k)]) := by
  have hfl := flat_cars n xs hl
  rw [flat_append]
  have e1 : flat [(p, cL xs k, t, cT xs k)] = [p, cL xs k, t, cT xs k] := rfl
  rw [e1, spX, List.set_append_left _ _ (by omega)]
  congr 1
  rw [← flat_set (cars n xs) k (cP xs k, cL xs k, cF xs k, t), hfl]
  have same : ∀ (j : Nat) (ys : List Int), j < ys.length → ys.set j (ys.getD j 0) = ys := fun j ys hj => by
    rw [show ys.getD j 0 = ys[j] by simp [List.getD, hj]]; exact List.set_getElem_self _
  have a0 := same (k * 4) xs (by omega)
  have a1 := same (k * 4 + 1) xs (by omega)
  have a2 := same (k * 4 + 2) xs (by omega)
  show xs.set (k * 4 + 3) t = (((xs.set (k * 4) (cP xs k)).set (k * 4 + 1) (cL xs k)).set (k * 4 + 2) (cF xs k)).set (k * 4 + 3) t
  unfold cP cL cF
  rw [a0, a1, a2]
theorem spX_ok {k : Nat} (hl : xs.length = n * 4) (hk : k < n) (h1 : gcB n xs = true) (h3 : inB p 1 12 = true) (h4 : inB t (cF xs k + 1) (cT xs k - 1) = true) :
    AllOk (((cars n xs).set k (cP xs k, cL xs k, cF xs k, t)) ++ [(p, cL xs k, t, cT xs k)]) := by
  have g := gc_yes h1
  have hc := g.each k hk
  have hv := caB_yes hc
  have ht := inB_yes h4
  have hp := inB_yes h3
  rw [allOk_app]
  refine ⟨?_, ?_⟩
  · intro c hcm
    rcases List.mem_or_eq_of_mem_set hcm with hcm | rfl
    · unfold cars at hcm
      obtain ⟨j, hj, rfl⟩ := List.mem_map.1 hcm
      exact g.each j (List.mem_range.1 hj)
    · simp only [carOk, caB, Bool.and_eq_true, decide_eq_true_eq]
      exact ⟨⟨⟨⟨inB_mk hv.1.1 hv.1.2, inB_mk hv.2.1.1 hv.2.1.2⟩, hv.2.2.1⟩, by omega⟩, by omega⟩
  · intro c hcm
    rw [List.mem_singleton.1 hcm]
    simp only [carOk, caB, Bool.and_eq_true, decide_eq_true_eq]
    exact ⟨⟨⟨⟨h3, inB_mk hv.2.1.1 hv.2.1.2⟩, by omega⟩, by omega⟩, hv.2.2.2.2⟩
/-- Whatever orders the carries behind a split gives what the reference gives. -/
theorem sp_sorted {k : Nat} {Z : List Car} (hl : xs.length = n * 4) (hk : k < n) (hp : Z.Perm (((cars n xs).set k (cP xs k, cL xs k, cF xs k, t)) ++ [(p, cL xs k, t, cT xs k)])) (hw : Weak Z) :
    gcB (n + 1) (flat Z) = csB (n + 1) (spX xs k t p) ∧ (csB (n + 1) (spX xs k t p) = true → flat Z = csTo (spX xs k t p) (n + 1)) := by
  refine cs_any ?_ hw
  have e : cars (n + 1) (spX xs k t p) = ((cars n xs).set k (cP xs k, cL xs k, cF xs k, t)) ++ [(p, cL xs k, t, cT xs k)] := by
    have hlen : (((cars n xs).set k (cP xs k, cL xs k, cF xs k, t)) ++ [(p, cL xs k, t, cT xs k)]).length = n + 1 := by
      rw [List.length_append, List.length_set, cars_length]; rfl
    apply List.ext_getElem (by rw [cars_length, hlen])
    intro j h1 h2
    have := carAt_flat _ j h2
    rw [← spX_flat hl hk] at this
    rw [← this]
    simp [cars]
  rw [e]
  exact hp
end
end Go.Proofs.Ytamehlafmfmgmaa
