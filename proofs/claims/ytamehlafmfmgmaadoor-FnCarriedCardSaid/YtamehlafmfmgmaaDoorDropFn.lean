/- The ranges in which a load has no carrier, found carry by carry and count by count: both ways find the same. Plain laws, without conditions. -/
import Derived.Test.YtamehlafmfmgmaaDoorCarryAtFn
namespace Go.Proofs.YtamehlafmfmgmaaDoor
/-- One more count without a carrier. -/
def rnPut (l : List (Int × Int)) (t : Int) : List (Int × Int) := if l ≠ [] ∧ (l.getLastD (0, 0)).2 = t then l.dropLast ++ [((l.getLastD (0, 0)).1, t + 1)] else l ++ [(t, t + 1)]
def rn (own : Int → Bool) (a : Int) : Nat → List (Int × Int)
  | 0 => []
  | d + 1 => if own (a + d) = true then rn own a d else rnPut (rn own a d) (a + d)
/-- The ranges from a on and below b. -/
def rI (own : Int → Bool) (a b : Int) : List (Int × Int) := rn own a (b - a).toNat
theorem rI_zero (own : Int → Bool) (a : Int) : rI own a a = [] := by unfold rI; rw [Int.sub_self]; rfl
theorem rI_succ {own : Int → Bool} {a b : Int} (h : a ≤ b) : rI own a (b + 1) = if own b = true then rI own a b else rnPut (rI own a b) b := by
  unfold rI
  rw [show (b + 1 - a).toNat = (b - a).toNat + 1 by omega, rn, show a + ((b - a).toNat : Int) = b by omega]
theorem rI_skip {own : Int → Bool} {a b c : Int} (hab : a ≤ b) (hbc : b ≤ c) (h : ∀ t, b ≤ t → t < c → own t = true) : rI own a c = rI own a b := by
  obtain ⟨d, hd⟩ : ∃ d : Nat, c = b + d := ⟨(c - b).toNat, by omega⟩
  subst hd
  induction d with
  | zero => simp
  | succ d ih =>
    rw [show b + ((d + 1 : Nat) : Int) = b + (d : Int) + 1 by omega, rI_succ (by omega), if_pos (h _ (by omega) (by omega))]
    exact ih (by omega) (fun t h1 h2 => h t h1 (by omega))
theorem rI_gap {own : Int → Bool} {a b c : Int} (hab : a ≤ b) (hbc : b < c) (h : ∀ t, b ≤ t → t < c → own t = false) (hl : rI own a b = [] ∨ ((rI own a b).getLastD (0, 0)).2 ≠ b) : rI own a c = rI own a b ++ [(b, c)] := by
  obtain ⟨d, hd⟩ : ∃ d : Nat, c = b + d + 1 := ⟨(c - b - 1).toNat, by omega⟩
  subst hd
  induction d with
  | zero =>
    rw [show b + ((0 : Nat) : Int) + 1 = b + 1 by omega, rI_succ hab, if_neg (by rw [h b (by omega) (by omega)]; simp), rnPut, if_neg (by
      rintro ⟨h1, h2⟩
      rcases hl with h3 | h3
      · exact h1 h3
      · exact h3 h2)]
  | succ d ih =>
    have ih := ih (by omega) (fun t h1 h2 => h t h1 (by omega))
    rw [show b + ((d + 1 : Nat) : Int) + 1 = b + (d : Int) + 1 + 1 by omega, rI_succ (by omega), if_neg (by rw [h _ (by omega) (by omega)]; simp), ih, rnPut, if_pos (by
      refine ⟨by simp, ?_⟩
      simp [List.getLastD_concat])]
    simp [List.getLastD_concat]
/-- A load has a carrier at a count. -/
def ownB (n : Nat) (xs : List Int) (load t : Int) : Bool := (List.range n).any fun k => cL xs k == load && inB t (cF xs k) (cT xs k - 1)
theorem own_iff {n : Nat} {xs : List Int} {load t : Int} : ownB n xs load t = true ↔ ∃ k, k < n ∧ cL xs k = load ∧ cF xs k ≤ t ∧ t < cT xs k := by
  simp only [ownB, List.any_eq_true, List.mem_range, Bool.and_eq_true, beq_iff_eq]
  constructor
  · rintro ⟨k, hk, h1, h2⟩
    have := inB_yes h2
    exact ⟨k, hk, h1, by omega, by omega⟩
  · rintro ⟨k, hk, h1, h2, h3⟩
    exact ⟨k, hk, h1, by simp [inB]; omega⟩
/-- The program's way. -/
def drTo (xs : List Int) (load from_ to : Int) : Nat → List (Int × Int) × Int
  | 0 => ([], from_)
  | k + 1 => if cL xs k = load then ((if (drTo xs load from_ to k).2 < min (cF xs k) to then (drTo xs load from_ to k).1 ++ [((drTo xs load from_ to k).2, min (cF xs k) to)] else (drTo xs load from_ to k).1), max (drTo xs load from_ to k).2 (cT xs k)) else drTo xs load from_ to k
def drAll (n : Nat) (xs : List Int) (load from_ to : Int) : List (Int × Int) := if (drTo xs load from_ to n).2 < to then (drTo xs load from_ to n).1 ++ [((drTo xs load from_ to n).2, to)] else (drTo xs load from_ to n).1
structure DrOk (n : Nat) (xs : List Int) (load a to : Int) (k : Nat) (o : List (Int × Int)) (A : Int) : Prop where
  le : a ≤ A
  run : o = rI (ownB n xs load) a (min A to)
  last : o = [] ∨ (o.getLastD (0, 0)).2 < A
  next : ∀ j, k ≤ j → j < n → cL xs j = load → A ≤ cF xs j ∨ A = a
  own : ∀ t, A ≤ t → ownB n xs load t = true → ∃ j, k ≤ j ∧ j < n ∧ cL xs j = load ∧ cF xs j ≤ t ∧ t < cT xs j
theorem dr_ok {n : Nat} {xs : List Int} {load a to : Int} (hg : GoodC n xs) (hat : a ≤ to) : ∀ k, k ≤ n → DrOk n xs load a to k (drTo xs load a to k).1 (drTo xs load a to k).2
  | 0, _ => ⟨Int.le_refl _, by rw [show min (drTo xs load a to 0).2 to = a by show min a to = a; omega, rI_zero]; rfl, .inl rfl, fun j _ _ _ => .inr rfl, fun t _ h => by
      obtain ⟨j, hj, h1⟩ := own_iff.1 h
      exact ⟨j, Nat.zero_le _, hj, h1⟩⟩
  | k + 1, hk => by
    obtain ⟨le, run, last, next, own⟩ := dr_ok hg hat (load := load) k (by omega)
    rw [drTo]
    obtain ⟨o, eo⟩ : ∃ o, (drTo xs load a to k).1 = o := ⟨_, rfl⟩
    obtain ⟨A, eA⟩ : ∃ o, (drTo xs load a to k).2 = o := ⟨_, rfl⟩
    rw [eo, eA] at run last
    rw [eA] at le next own
    rw [eo, eA]
    by_cases hl : cL xs k = load
    · rw [if_pos hl]
      have hc := caB_yes (hg.each k (by omega))
      have hft := hc.2.2.2.1
      have hown : ∀ t, cF xs k ≤ t → t < cT xs k → ownB n xs load t = true := fun t h1 h2 => own_iff.2 ⟨k, by omega, hl, h1, h2⟩
      have hnx : ∀ j, k + 1 ≤ j → j < n → cL xs j = load → cT xs k ≤ cF xs j := by
        intro j hj hjn hlj
        have := hg.free j k hjn (by omega)
        simp only [clashAt, Bool.and_eq_false_iff, Bool.or_eq_false_iff, decide_eq_false_iff_not, beq_eq_false_iff_ne] at this
        rcases this with h | h
        · exact absurd (hl.trans hlj.symm) h.1
        · omega
      have hmax : ∀ t, max A (cT xs k) ≤ t → ownB n xs load t = true → ∃ j, k + 1 ≤ j ∧ j < n ∧ cL xs j = load ∧ cF xs j ≤ t ∧ t < cT xs j := by
        intro t ht ho
        obtain ⟨j, hj, hjn, h1, h2, h3⟩ := own t (by omega) ho
        have : j ≠ k := fun e => by subst e; omega
        exact ⟨j, by omega, hjn, h1, h2, h3⟩
      by_cases hAf : A ≤ cF xs k
      · have hfree : ∀ t, A ≤ t → t < cF xs k → ownB n xs load t = false := by
          intro t h1 h2
          cases ho : ownB n xs load t with
          | false => rfl
          | true =>
            obtain ⟨j, hj, hjn, _, h3, _⟩ := own t h1 ho
            have := ord_from hg.ord j k hjn hj
            omega
        have hm : max A (cT xs k) = cT xs k := by omega
        rw [hm] at hmax ⊢
        have hnext : ∀ j, k + 1 ≤ j → j < n → cL xs j = load → cT xs k ≤ cF xs j ∨ cT xs k = a := fun j h1 h2 h3 => .inl (hnx j h1 h2 h3)
        by_cases hlt : A < min (cF xs k) to
        · rw [if_pos hlt]
          have hA : min A to = A := by omega
          rw [hA] at run
          have hgap := rI_gap (own := ownB n xs load) le hlt (fun t h1 h2 => hfree t h1 (by omega)) (by
            rw [← run]
            rcases last with h | h
            · exact .inl h
            · exact .inr (by omega))
          have hrun : o ++ [(A, min (cF xs k) to)] = rI (ownB n xs load) a (min (cT xs k) to) := by
            rw [run, ← hgap]
            rcases Int.lt_or_le (cF xs k) to with h | h
            · rw [show min (cF xs k) to = cF xs k by omega]
              exact (rI_skip (by omega) (by omega) (fun t h1 h2 => hown t h1 (by omega))).symm
            · rw [show min (cF xs k) to = to by omega, show min (cT xs k) to = to by omega]
          exact ⟨by omega, hrun, .inr (by simp [List.getLastD_concat]; omega), hnext, hmax⟩
        · rw [if_neg hlt]
          have hrun : o = rI (ownB n xs load) a (min (cT xs k) to) := by
            rw [run]
            rcases Int.lt_or_le A to with h | h
            · rw [show min A to = A by omega]
              exact (rI_skip le (by omega) (fun t h1 h2 => hown t (by omega) (by omega))).symm
            · rw [show min A to = to by omega, show min (cT xs k) to = to by omega]
          exact ⟨by omega, hrun, by rcases last with h | h; exact .inl h; exact .inr (by show (o.getLastD (0, 0)).2 < cT xs k; omega), hnext, hmax⟩
      · have hAa : A = a := by
          rcases next k (Nat.le_refl _) (by omega) hl with h | h
          · exact absurd h hAf
          · exact h
        subst hAa
        rw [if_neg (by omega)]
        have ho : o = [] := by rw [run, show min A to = A by omega, rI_zero]
        subst ho
        refine ⟨by omega, ?_, .inl rfl, fun j h1 h2 h3 => ?_, hmax⟩
        · have := rI_skip (own := ownB n xs load) (a := A) (b := A) (c := min (max A (cT xs k)) to) (Int.le_refl _) (by omega) (fun t h1 h2 => hown t (by omega) (by omega))
          rw [this, rI_zero]
        · have := hnx j h1 h2 h3
          omega
    · rw [if_neg hl, eo, eA]
      refine ⟨le, run, last, fun j h1 h2 h3 => next j (by omega) h2 h3, fun t h1 h2 => ?_⟩
      obtain ⟨j, hj, hjn, h3, h4⟩ := own t h1 h2
      have : j ≠ k := fun e => hl (by rw [← e]; exact h3)
      exact ⟨j, by omega, hjn, h3, h4⟩
/-- Both ways find the same. -/
theorem dr_same {n : Nat} {xs : List Int} {load a to : Int} (hg : GoodC n xs) (hat : a ≤ to) : drAll n xs load a to = rI (ownB n xs load) a to := by
  obtain ⟨le, run, last, _, own⟩ := dr_ok hg hat (load := load) n (Nat.le_refl _)
  unfold drAll
  obtain ⟨o, eo⟩ : ∃ o, (drTo xs load a to n).1 = o := ⟨_, rfl⟩
  obtain ⟨A, eA⟩ : ∃ o, (drTo xs load a to n).2 = o := ⟨_, rfl⟩
  rw [eo, eA] at run last
  rw [eA] at le own
  rw [eo, eA]
  split
  · rename_i h
    rw [show min A to = A by omega] at run
    rw [run]
    refine (rI_gap le h (fun t h1 h2 => ?_) (by
      rw [← run]
      rcases last with h | h
      · exact .inl h
      · exact .inr (by omega))).symm
    cases ho : ownB n xs load t with
    | false => rfl
    | true =>
      obtain ⟨j, hj, hjn, _⟩ := own t h1 ho
      omega
  · rename_i h
    rw [run, show min A to = to by omega]
theorem rn_len (own : Int → Bool) (a : Int) : ∀ d, (rn own a d).length ≤ d
  | 0 => by simp [rn]
  | d + 1 => by
    have := rn_len own a d
    rw [rn]
    split
    · omega
    · rw [rnPut]
      split
      · rename_i h
        have : 0 < (rn own a d).length := List.length_pos_iff.2 h.1
        simp; omega
      · simp; omega
/-- As rows. -/
def prs (l : List (Int × Int)) : List (List Int) := l.map fun p => [p.1, p.2]
theorem prs_length (l : List (Int × Int)) : (prs l).length = l.length := by simp [prs]
theorem prs_app (l m : List (Int × Int)) : prs (l ++ m) = prs l ++ prs m := by simp [prs]
end Go.Proofs.YtamehlafmfmgmaaDoor
