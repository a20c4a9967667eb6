/- What the law of carried loads asks: plain laws. Without conditions. -/
import Derived.Test.YtamehlafmfmgmaaDoorCarrier
import Derived.Test.YtamehlafmfmgmaaDoorHandFn
import Derived.Test.YtamehlafmfmgmaaDoorDropFn
namespace Go.Proofs.YtamehlafmfmgmaaDoor
open Go.RowKit

theorem clash_who {n : Nat} {xs : List Int} (h : GoodC n xs) {j k : Nat} (hk : k < n) (hj : j < k) (hl : cP xs j = cP xs k) : cT xs j ≤ cF xs k := by
  have := h.free k j hk hj
  have e : (cP xs j == cP xs k) = true := by simpa using hl
  simp only [clashAt, e, Bool.or_true, Bool.true_and, decide_eq_false_iff_not] at this
  omega
theorem who_apart {n : Nat} {xs : List Int} (h : GoodC n xs) {i k : Nat} (hi : i < n) (hk : k < n) (hl : cP xs i = cP xs k) {t : Int} (h1 : cF xs i ≤ t) (h2 : t < cT xs i) (h3 : cF xs k ≤ t) (h4 : t < cT xs k) : i = k := by
  rcases Nat.lt_trichotomy i k with g | g | g
  · have := clash_who h hk g hl; omega
  · exact g
  · have := clash_who h hi g hl.symm; omega
theorem cr_of {n : Nat} {xs : List Int} {q c : Int} {j : Nat} (hg : gcB n xs = true) (hq : inB q 1 9 = true) (hc : inB c 0 999 = true) (hj : j < n) (h1 : cL xs j = q) (h2 : cF xs j ≤ c) (h3 : c < cT xs j) : crB n xs q c = true ∧ crV n xs q c = cP xs j := by
  have hq' := inB_yes hq
  obtain ⟨s1, s2, s3, s4⟩ := fa_spec (p := isAt xs q 0 c) n 0
  have hat : isAt xs q 0 c j = true := by
    rw [cr_at hq'.1, Bool.and_eq_true, beq_iff_eq]
    exact ⟨h1, inB_mk h2 (by omega)⟩
  have hlt : idxAt n xs q 0 c < n := by
    unfold idxAt
    rcases Nat.lt_or_ge (fa (isAt xs q 0 c) n 0) n with h | h
    · exact h
    · have := s4 j (by omega) (by omega)
      rw [hat] at this; cases this
  have hb : crB n xs q c = true := by simp only [crB, Bool.and_eq_true, decide_eq_true_eq]; exact ⟨⟨⟨hg, hq⟩, hc⟩, hlt⟩
  refine ⟨hb, ?_⟩
  rw [(cr_yes hb).2]
  have h4 := s1 (by unfold idxAt at hlt; omega)
  rw [cr_at hq'.1, Bool.and_eq_true, beq_iff_eq] at h4
  have h5 := inB_yes h4.2
  have := load_apart (gc_yes hg) hlt hj (show cL xs (idxAt n xs q 0 c) = cL xs j from h4.1.trans h1.symm) (t := c) h5.1 (by have := h5.2; unfold idxAt; omega) h2 h3
  rw [this]
theorem ld_of {n : Nat} {xs : List Int} {q c : Int} {j : Nat} (hg : gcB n xs = true) (hq : inB q 1 12 = true) (hc : inB c 0 999 = true) (hj : j < n) (h1 : cP xs j = q) (h2 : cF xs j ≤ c) (h3 : c < cT xs j) : ldB n xs q c = true ∧ ldV n xs q c = cL xs j := by
  have hq' := inB_yes hq
  obtain ⟨s1, s2, s3, s4⟩ := fa_spec (p := isAt xs 0 q c) n 0
  have hat : isAt xs 0 q c j = true := by
    rw [ld_at hq'.1, Bool.and_eq_true, beq_iff_eq]
    exact ⟨h1, inB_mk h2 (by omega)⟩
  have hlt : idxAt n xs 0 q c < n := by
    unfold idxAt
    rcases Nat.lt_or_ge (fa (isAt xs 0 q c) n 0) n with h | h
    · exact h
    · have := s4 j (by omega) (by omega)
      rw [hat] at this; cases this
  have hb : ldB n xs q c = true := by simp only [ldB, Bool.and_eq_true, decide_eq_true_eq]; exact ⟨⟨⟨hg, hq⟩, hc⟩, hlt⟩
  refine ⟨hb, ?_⟩
  rw [(ld_yes hb).2]
  have h4 := s1 (by unfold idxAt at hlt; omega)
  rw [ld_at hq'.1, Bool.and_eq_true, beq_iff_eq] at h4
  have h5 := inB_yes h4.2
  have := who_apart (gc_yes hg) hlt hj (show cP xs (idxAt n xs 0 q c) = cP xs j from h4.1.trans h1.symm) (t := c) h5.1 (by have := h5.2; unfold idxAt; omega) h2 h3
  rw [this]
/-- Who carries a load at a count carries that load then. -/
theorem cr_ld {n : Nat} {xs : List Int} {q c p : Int} (h : crB n xs q c = true) (hv : crV n xs q c = p) : ldB n xs p c = true ∧ ldV n xs p c = q := by
  rw [(cr_yes h).2] at hv
  simp only [crB, Bool.and_eq_true, decide_eq_true_eq] at h
  obtain ⟨⟨⟨hg, hq⟩, hc⟩, hlt⟩ := h
  obtain ⟨s1, -, -, -⟩ := fa_spec (p := isAt xs q 0 c) n 0
  have h4 := s1 (by unfold idxAt at hlt; omega)
  rw [cr_at (inB_yes hq).1, Bool.and_eq_true, beq_iff_eq] at h4
  have h5 := inB_yes h4.2
  obtain ⟨g1, -⟩ := good_in (gc_yes hg) hlt
  have e : cL xs (idxAt n xs q 0 c) = q := h4.1
  have := ld_of hg (q := p) (by rw [← hv]; exact inB_mk g1.1 g1.2) hc hlt hv h5.1 (by have := h5.2; unfold idxAt; omega)
  rw [e] at this
  exact this
theorem ld_cr {n : Nat} {xs : List Int} {q c p : Int} (h : ldB n xs p c = true) (hv : ldV n xs p c = q) : crB n xs q c = true ∧ crV n xs q c = p := by
  rw [(ld_yes h).2] at hv
  simp only [ldB, Bool.and_eq_true, decide_eq_true_eq] at h
  obtain ⟨⟨⟨hg, hq⟩, hc⟩, hlt⟩ := h
  obtain ⟨s1, -, -, -⟩ := fa_spec (p := isAt xs 0 p c) n 0
  have h4 := s1 (by unfold idxAt at hlt; omega)
  rw [ld_at (inB_yes hq).1, Bool.and_eq_true, beq_iff_eq] at h4
  have h5 := inB_yes h4.2
  obtain ⟨-, g1, -⟩ := good_in (gc_yes hg) hlt
  have e : cP xs (idxAt n xs 0 p c) = p := h4.1
  have := cr_of hg (q := q) (by rw [← hv]; exact inB_mk g1.1 g1.2) hc hlt hv h5.1 (by have := h5.2; unfold idxAt; omega)
  rw [e] at this
  exact this
/-- What the law asks of a count at which a load changes hands. -/
structure HandLaw (n : Nat) (xs : List Int) (q e p p' : Int) : Prop where
  rng : 0 ≤ e ∧ e ≤ 1000
  b1 : crB n xs q (e - 1) = true
  v1 : crV n xs q (e - 1) = p
  b2 : crB n xs q e = true
  v2 : crV n xs q e = p'
  ne : p ≠ p'
theorem hoTo_mem {n : Nat} {xs : List Int} {q e : Int} : ∀ k, e ∈ hoTo n xs q k → ∃ c, c < k ∧ e = cF xs c ∧ hoAt n xs q c = true
  | 0, h => by simp [hoTo] at h
  | k + 1, h => by
    unfold hoTo at h
    split at h
    · rename_i hk
      rcases List.mem_append.1 h with h | h
      · obtain ⟨c, hc, r⟩ := hoTo_mem k h
        exact ⟨c, by omega, r⟩
      · exact ⟨k, by omega, List.mem_singleton.1 h, hk⟩
    · obtain ⟨c, hc, r⟩ := hoTo_mem k h
      exact ⟨c, by omega, r⟩
theorem hand_law {n : Nat} {xs : List Int} {q e : Int} (hg : gcB n xs = true) (hq : inB q 1 9 = true) (he : e ∈ hoTo n xs q n) : ∃ p p', HandLaw n xs q e p p' := by
  obtain ⟨c, hc, rfl, h⟩ := hoTo_mem n he
  simp only [hoAt, Bool.and_eq_true, beq_iff_eq, List.any_eq_true, List.mem_range] at h
  obtain ⟨hl, d, hd, hp⟩ := h
  obtain ⟨a1, a2, a3⟩ := hoPr_yes hp
  obtain ⟨-, -, c1, c2, c3⟩ := good_in (gc_yes hg) hc
  obtain ⟨-, -, d1, d2, d3⟩ := good_in (gc_yes hg) hd
  have k1 := cr_of hg hq (c := cF xs c - 1) (inB_mk (by omega) (by omega)) hd a1 (by omega) (by omega)
  have k2 := cr_of hg hq (c := cF xs c) (inB_mk (by omega) (by omega)) hc hl (by omega) (by omega)
  exact ⟨_, _, ⟨by omega, by omega⟩, k1.1, k1.2, k2.1, k2.2, a3⟩
/-! The ranges without a carrier -/
def rx (l : List (Int × Int)) (k : Nat) : Int := (l.getD k (0, 0)).1
def ry (l : List (Int × Int)) (k : Nat) : Int := (l.getD k (0, 0)).2
def sumTo (l : List (Int × Int)) : Nat → Int
  | 0 => 0
  | k + 1 => sumTo l k + (ry l k - rx l k)
theorem get_old (l : List (Int × Int)) (p : Int × Int) {k : Nat} (h : k < l.length) : (l ++ [p]).getD k (0, 0) = l.getD k (0, 0) := by
  simp [List.getD, List.getElem?_append_left h]
theorem get_last (l : List (Int × Int)) (p : Int × Int) : (l ++ [p]).getD l.length (0, 0) = p := by simp [List.getD]
theorem sum_old (l : List (Int × Int)) (p : Int × Int) : ∀ k, k ≤ l.length → sumTo (l ++ [p]) k = sumTo l k
  | 0, _ => rfl
  | k + 1, h => by
    rw [sumTo, sumTo, sum_old l p k (by omega)]
    unfold rx ry
    rw [get_old l p (by omega)]
theorem sum_app (l : List (Int × Int)) (p : Int × Int) : sumTo (l ++ [p]) (l ++ [p]).length = sumTo l l.length + (p.2 - p.1) := by
  rw [List.length_append, List.length_singleton, sumTo, sum_old l p _ (Nat.le_refl _)]
  unfold rx ry
  rw [get_last]
structure WellR (own : Int → Bool) (a t : Int) (l : List (Int × Int)) : Prop where
  each : ∀ k, k < l.length → (a ≤ rx l k ∧ rx l k < ry l k ∧ ry l k ≤ t) ∧ own (rx l k) = false ∧ own (ry l k - 1) = false
  gap : ∀ k, k + 1 < l.length → ry l k < rx l (k + 1)
def cntF (own : Int → Bool) (a : Int) : Nat → Int
  | 0 => 0
  | d + 1 => if own (a + d) = true then cntF own a d else cntF own a d + 1
theorem well_app {own : Int → Bool} {a t t' x y : Int} {l : List (Int × Int)} (h : WellR own a t l) (htt : t ≤ t') (h1 : a ≤ x) (h2 : x < y) (h3 : y ≤ t') (h4 : own x = false) (h5 : own (y - 1) = false) (h6 : l ≠ [] → (l.getLastD (0, 0)).2 < x) : WellR own a t' (l ++ [(x, y)]) := by
  refine ⟨fun k hk => ?_, fun k hk => ?_⟩
  · rcases Nat.lt_or_ge k l.length with g | g
    · have := h.each k g
      unfold rx ry at this ⊢
      rw [get_old l _ g]
      exact ⟨⟨this.1.1, this.1.2.1, by omega⟩, this.2⟩
    · obtain rfl : k = l.length := by simp at hk; omega
      unfold rx ry
      rw [get_last]
      exact ⟨⟨h1, h2, h3⟩, h4, h5⟩
  · rw [List.length_append, List.length_singleton] at hk
    rcases Nat.lt_or_ge (k + 1) l.length with g | g
    · have := h.gap k g
      unfold rx ry at this ⊢
      rw [get_old l _ g, get_old l _ (by omega)]
      exact this
    · obtain e : k + 1 = l.length := by omega
      unfold rx ry
      rw [e, get_last, get_old l _ (by omega)]
      have hne : l ≠ [] := by intro e2; rw [e2] at e; simp at e
      have := h6 hne
      have e3 : l.getLastD (0, 0) = l.getD k (0, 0) := by
        rw [List.getLastD_eq_getLast?, List.getLast?_eq_getElem?, List.getD_eq_getElem?_getD, show l.length - 1 = k by omega]
      rw [e3] at this
      exact this
theorem rn_well (own : Int → Bool) (a : Int) : ∀ d : Nat, WellR own a (a + d) (rn own a d) ∧ sumTo (rn own a d) (rn own a d).length = cntF own a d
  | 0 => ⟨⟨fun k hk => by simp [rn] at hk, fun k hk => by simp [rn] at hk⟩, rfl⟩
  | d + 1 => by
    obtain ⟨hw, hs⟩ := rn_well own a d
    rw [rn, cntF]
    obtain ⟨l, el⟩ : ∃ l, rn own a d = l := ⟨_, rfl⟩
    rw [el] at hw hs ⊢
    clear el
    by_cases ho : own (a + d) = true
    · rw [if_pos ho, if_pos ho]
      exact ⟨⟨fun k hk => by have := hw.each k hk; exact ⟨⟨this.1.1, this.1.2.1, by omega⟩, this.2⟩, hw.gap⟩, hs⟩
    · rw [if_neg ho, if_neg ho, rnPut]
      have ho' : own (a + d) = false := by simpa using ho
      by_cases h : l ≠ [] ∧ (l.getLastD (0, 0)).2 = a + d
      · rw [if_pos h]
        obtain ⟨hne, hl⟩ := h
        obtain ⟨m, x, y, rfl⟩ : ∃ m x y, l = m ++ [(x, y)] := ⟨l.dropLast, (l.getLast hne).1, (l.getLast hne).2, (List.dropLast_concat_getLast hne).symm⟩
        rw [List.getLastD_concat] at hl ⊢
        rw [List.dropLast_concat]
        obtain rfl : y = a + d := hl
        rw [sum_app] at hs ⊢
        have hx := hw.each m.length (by simp)
        unfold rx ry at hx
        rw [get_last] at hx
        obtain ⟨⟨x1, x2, x3⟩, x4, x5⟩ := hx
        have hs' : sumTo m m.length + (a + d - x) = cntF own a d := hs
        refine ⟨?_, show sumTo m m.length + (a + d + 1 - x) = cntF own a d + 1 by omega⟩
        have hm : WellR own a (a + d) m := ⟨fun k hk => by
            have := hw.each k (by simp; omega)
            unfold rx ry at this ⊢
            rw [get_old m _ hk] at this
            exact this, fun k hk => by
            have := hw.gap k (by simp; omega)
            unfold rx ry at this ⊢
            rw [get_old m _ hk, get_old m _ (by omega)] at this
            exact this⟩
        have x2' : x < a + d := x2
        refine well_app hm (by omega) x1 (by omega) (by omega) x4 (by rw [show a + (d : Int) + 1 - 1 = a + d by omega]; exact ho') (fun hm2 => ?_)
        have e : m.length - 1 + 1 = m.length := by
          have : m.length ≠ 0 := fun e => hm2 (List.length_eq_zero_iff.1 e)
          omega
        have := hw.gap (m.length - 1) (by simp; omega)
        unfold rx ry at this
        rw [e, get_last, get_old m _ (by omega)] at this
        have e3 : m.getLastD (0, 0) = m.getD (m.length - 1) (0, 0) := by
          rw [List.getLastD_eq_getLast?, List.getLast?_eq_getElem?, List.getD_eq_getElem?_getD]
        rw [e3]
        exact this
      · rw [if_neg h, sum_app]
        refine ⟨well_app hw (by omega) (by omega) (by omega) (by omega) ho' (by rw [show a + (d : Int) + 1 - 1 = a + d by omega]; exact ho') (fun hne => ?_), show sumTo l l.length + (a + d + 1 - (a + d)) = cntF own a d + 1 by omega⟩
        have hn : l.length ≠ 0 := fun e => hne (List.length_eq_zero_iff.1 e)
        have := (hw.each (l.length - 1) (by omega)).1.2.2
        have e3 : l.getLastD (0, 0) = l.getD (l.length - 1) (0, 0) := by
          rw [List.getLastD_eq_getLast?, List.getLast?_eq_getElem?, List.getD_eq_getElem?_getD]
        have h2 : ((l.getLastD (0, 0)).2 ≠ a + d) := fun e => h ⟨hne, e⟩
        rw [e3] at h2 ⊢
        unfold ry at this
        omega
/-- How much of a range carry j has. -/
def ovF (xs : List Int) (q a b : Int) (j : Nat) : Int := if cL xs j = q then (if max (cF xs j) a < min (cT xs j) b then min (cT xs j) b - max (cF xs j) a else 0) else 0
def ovTo (xs : List Int) (q a b : Int) : Nat → Int
  | 0 => 0
  | k + 1 => ovTo xs q a b k + ovF xs q a b k
def hasAt (xs : List Int) (q t : Int) (j : Nat) : Bool := cL xs j == q && inB t (cF xs j) (cT xs j - 1)
theorem ov_zero (xs : List Int) (q a : Int) : ∀ k, ovTo xs q a a k = 0
  | 0 => rfl
  | k + 1 => by
    rw [ovTo, ov_zero xs q a k, ovF]
    split
    · rw [if_neg (by omega)]; rfl
    · rfl
theorem ov_next {n : Nat} {xs : List Int} (hg : GoodC n xs) {q a b : Int} (hab : a ≤ b) : ∀ k, k ≤ n → ovTo xs q a (b + 1) k = ovTo xs q a b k + (if (List.range k).any (hasAt xs q b) = true then 1 else 0)
  | 0, _ => by simp [ovTo]
  | k + 1, hk => by
    have ih := ov_next hg (q := q) hab k (by omega)
    rw [ovTo, ovTo, ih, List.range_succ, List.any_append]
    simp only [List.any_cons, List.any_nil, Bool.or_false]
    obtain ⟨-, -, c1, c2, c3⟩ := good_in hg (show k < n by omega)
    have hF : ovF xs q a (b + 1) k = ovF xs q a b k + (if hasAt xs q b k = true then 1 else 0) := by
      unfold ovF hasAt
      by_cases hl : cL xs k = q
      · rw [if_pos hl, if_pos hl]
        have e : (cL xs k == q) = true := by simpa using hl
        rw [e, Bool.true_and]
        by_cases hb : cF xs k ≤ b ∧ b ≤ cT xs k - 1
        · rw [inB_mk hb.1 hb.2, if_pos rfl]
          split <;> split <;> omega
        · have : inB b (cF xs k) (cT xs k - 1) = false := by simp only [inB, decide_eq_false_iff_not]; exact hb
          simp only [this, Bool.false_eq_true, if_false]
          split <;> split <;> omega
      · rw [if_neg hl, if_neg hl]
        have e : (cL xs k == q) = false := by simpa using hl
        rw [e]; simp
    rw [hF]
    cases ha : (List.range k).any (hasAt xs q b) with
    | false => simp; omega
    | true =>
      have hno : hasAt xs q b k = false := by
        cases hh : hasAt xs q b k with
        | false => rfl
        | true =>
          obtain ⟨j, hj, hp⟩ := List.any_eq_true.1 ha
          rw [List.mem_range] at hj
          simp only [hasAt, Bool.and_eq_true, beq_iff_eq] at hh hp
          have h1 := inB_yes hh.2
          have h2 := inB_yes hp.2
          have := load_apart hg (show j < n by omega) (show k < n by omega) (hp.1.trans hh.1.symm) (t := b) h2.1 (by omega) h1.1 (by omega)
          omega
      rw [hno]; simp; omega
theorem cnt_all {n : Nat} {xs : List Int} (hg : GoodC n xs) {q a : Int} : ∀ d : Nat, cntF (ownB n xs q) a d + ovTo xs q a (a + d) n = d
  | 0 => by simp [cntF, ov_zero]
  | d + 1 => by
    have ih := cnt_all hg (q := q) (a := a) d
    have h1 := ov_next hg (q := q) (a := a) (b := a + d) (by omega) n (Nat.le_refl _)
    rw [cntF, show a + ((d + 1 : Nat) : Int) = a + d + 1 by omega, h1]
    have e : (List.range n).any (hasAt xs q (a + d)) = ownB n xs q (a + d) := rfl
    rw [e]
    split <;> simp <;> omega
/-- What the law asks of the ranges without a carrier. -/
structure DropLaw (n : Nat) (xs : List Int) (q a b : Int) (l : List (Int × Int)) : Prop where
  each : ∀ k, k < l.length → a ≤ rx l k ∧ rx l k < ry l k ∧ ry l k ≤ b
  gap : ∀ k, k + 1 < l.length → ry l k < rx l (k + 1)
  no1 : ∀ k, k < l.length → crB n xs q (rx l k) = false
  no2 : ∀ k, k < l.length → crB n xs q (ry l k - 1) = false
  sum : sumTo l l.length + ovTo xs q a b n = b - a
theorem cr_own {n : Nat} {xs : List Int} {q t : Int} (h : ownB n xs q t = false) : crB n xs q t = false := by
  cases hc : crB n xs q t with
  | false => rfl
  | true =>
    simp only [crB, Bool.and_eq_true, decide_eq_true_eq] at hc
    obtain ⟨⟨⟨hg, hq⟩, -⟩, hlt⟩ := hc
    obtain ⟨s1, -, -, -⟩ := fa_spec (p := isAt xs q 0 t) n 0
    have h4 := s1 (by unfold idxAt at hlt; omega)
    rw [cr_at (inB_yes hq).1, Bool.and_eq_true, beq_iff_eq] at h4
    have h5 := inB_yes h4.2
    have : ownB n xs q t = true := own_iff.2 ⟨_, hlt, h4.1, h5.1, by have := h5.2; unfold idxAt; omega⟩
    rw [this] at h; cases h
theorem drop_law {n : Nat} {xs : List Int} {q a b : Int} (hg : GoodC n xs) (hab : a ≤ b) : DropLaw n xs q a b (rI (ownB n xs q) a b) := by
  obtain ⟨d, rfl⟩ : ∃ d : Nat, b = a + d := ⟨(b - a).toNat, by omega⟩
  have e : rI (ownB n xs q) a (a + d) = rn (ownB n xs q) a d := by unfold rI; rw [show (a + (d : Int) - a).toNat = d by omega]
  rw [e]
  obtain ⟨hw, hs⟩ := rn_well (ownB n xs q) a d
  exact ⟨fun k hk => (hw.each k hk).1, hw.gap, fun k hk => cr_own (hw.each k hk).2.1, fun k hk => cr_own (hw.each k hk).2.2, by rw [hs]; have := cnt_all hg (q := q) (a := a) d; omega⟩
def lastTo (a : Int) (l : List (Int × Int)) : Nat → Int
  | 0 => a - 1
  | k + 1 => ry l k
theorem ovF_pos (xs : List Int) (q a b : Int) (k : Nat) : 0 ≤ ovF xs q a b k := by
  unfold ovF
  split
  · split <;> omega
  · omega
theorem ov_in (xs : List Int) (q a b : Int) (n : Nat) : ∀ k, k ≤ n → 0 ≤ ovTo xs q a b k ∧ ovTo xs q a b k ≤ ovTo xs q a b n := by
  have h0 : ∀ k, 0 ≤ ovTo xs q a b k := by
    intro k
    induction k with
    | zero => simp [ovTo]
    | succ k ih => have := ovF_pos xs q a b k; rw [ovTo]; omega
  intro k hk
  refine ⟨h0 k, ?_⟩
  obtain ⟨d, rfl⟩ : ∃ d, n = k + d := ⟨n - k, by omega⟩
  clear hk
  induction d with
  | zero => exact Int.le_refl _
  | succ d ih => have := ovF_pos xs q a b (k + d); rw [show k + (d + 1) = k + d + 1 by omega, ovTo]; omega
theorem ov_other {xs : List Int} {q a b : Int} {k : Nat} (h : ¬ cL xs k = q) : ovTo xs q a b (k + 1) = ovTo xs q a b k := by rw [ovTo, ovF, if_neg h]; omega
theorem ov_yes {xs : List Int} {q a b s e : Int} {k : Nat} (h : cL xs k = q) (hs : max (cF xs k) a = s) (he : min (cT xs k) b = e) (hl : s < e) : ovTo xs q a b (k + 1) = ovTo xs q a b k + (e - s) := by rw [ovTo, ovF, if_pos h, hs, he, if_pos hl]
theorem ov_none {xs : List Int} {q a b s e : Int} {k : Nat} (h : cL xs k = q) (hs : max (cF xs k) a = s) (he : min (cT xs k) b = e) (hl : ¬ s < e) : ovTo xs q a b (k + 1) = ovTo xs q a b k := by rw [ovTo, ovF, if_pos h, hs, he, if_neg hl]; omega
theorem last_lt {n : Nat} {xs : List Int} {q a b : Int} {l : List (Int × Int)} (h : DropLaw n xs q a b l) {k : Nat} (hk : k < l.length) : lastTo a l k < rx l k := by
  cases k with
  | zero => have := (h.each 0 hk).1; show a - 1 < _; omega
  | succ k => exact h.gap k hk
theorem sum_in {n : Nat} {xs : List Int} {q a b : Int} {l : List (Int × Int)} (h : DropLaw n xs q a b l) : ∀ k, k ≤ l.length → 0 ≤ sumTo l k ∧ sumTo l k ≤ b - a := by
  have h0 : ∀ k, k ≤ l.length → 0 ≤ sumTo l k := by
    intro k
    induction k with
    | zero => intro _; simp [sumTo]
    | succ k ih => intro hk; have := (h.each k (by omega)).2.1; have := ih (by omega); rw [sumTo]; omega
  have h1 : ∀ d k, k + d = l.length → sumTo l k ≤ sumTo l l.length := by
    intro d
    induction d with
    | zero => intro k e; rw [← e]; exact Int.le_refl _
    | succ d ih =>
      intro k e
      have := ih (k + 1) (by omega)
      have h2 := (h.each k (by omega)).2.1
      rw [sumTo] at this; omega
  intro k hk
  have h2 := h1 (l.length - k) k (by omega)
  have h3 := (ov_in xs q a b n n (Nat.le_refl _)).1
  have h4 := h.sum
  exact ⟨h0 k hk, by omega⟩
theorem prs_at {l : List (Int × Int)} {k : Nat} {r : List Int} (h : (prs l)[k]? = some r) : r = [rx l k, ry l k] := by
  unfold prs at h
  rw [List.getElem?_map] at h
  unfold rx ry
  rw [List.getD_eq_getElem?_getD]
  cases hk : l[k]? with
  | none => rw [hk] at h; simp at h
  | some p => rw [hk] at h; simp at h; simp [← h]
end Go.Proofs.YtamehlafmfmgmaaDoor
