/- Where a load changes hands: plain laws. Without conditions. -/
import Derived.Test.YtamehlafmfmgmaaDoorCarryAtFn
namespace Go.Proofs.YtamehlafmfmgmaaDoor
open Go.RowKit

/-- Carry d ends where carry c begins, both of a load, and another performer has it. -/
def hoPr (xs : List Int) (load : Int) (c d : Nat) : Bool := cL xs d == load && cT xs d == cF xs c && cP xs d != cP xs c
def hoAt (n : Nat) (xs : List Int) (load : Int) (c : Nat) : Bool := cL xs c == load && (List.range n).any (hoPr xs load c)
def hoTo (n : Nat) (xs : List Int) (load : Int) : Nat → List Int | 0 => [] | k + 1 => if hoAt n xs load k = true then hoTo n xs load k ++ [cF xs k] else hoTo n xs load k
theorem hoTo_len (n : Nat) (xs : List Int) (load : Int) : ∀ k, (hoTo n xs load k).length ≤ k
  | 0 => Nat.le_refl _
  | k + 1 => by
    have := hoTo_len n xs load k
    unfold hoTo
    split
    · simp; omega
    · omega
/-- In the midst of carry c, behind d others. -/
def hoIn (n : Nat) (xs : List Int) (load : Int) (c d : Nat) : List Int := if (cL xs c == load && (List.range d).any (hoPr xs load c)) = true then hoTo n xs load c ++ [cF xs c] else hoTo n xs load c
theorem hoIn_zero (n : Nat) (xs : List Int) (load : Int) (c : Nat) : hoIn n xs load c 0 = hoTo n xs load c := by simp [hoIn]
theorem hoIn_all (n : Nat) (xs : List Int) (load : Int) (c : Nat) : hoIn n xs load c n = hoTo n xs load (c + 1) := rfl
theorem hoIn_no {n : Nat} {xs : List Int} {load : Int} {c d : Nat} (h : (cL xs c == load && hoPr xs load c d) = false) : hoIn n xs load c (d + 1) = hoIn n xs load c d := by
  unfold hoIn
  have e : (cL xs c == load && (List.range (d + 1)).any (hoPr xs load c)) = (cL xs c == load && (List.range d).any (hoPr xs load c)) := by
    rw [List.range_succ, List.any_append]
    cases hl : (cL xs c == load) with
    | false => rfl
    | true => rw [hl] at h; simp only [Bool.true_and] at h; simp [h]
  rw [e]
theorem clash_load {n : Nat} {xs : List Int} (h : GoodC n xs) {j k : Nat} (hk : k < n) (hj : j < k) (hl : cL xs j = cL xs k) : cT xs j ≤ cF xs k := by
  have := h.free k j hk hj
  have e : (cL xs j == cL xs k) = true := by simpa using hl
  simp only [clashAt, e, Bool.true_or, Bool.true_and, decide_eq_false_iff_not] at this
  omega
theorem good_in {n : Nat} {xs : List Int} (h : GoodC n xs) {k : Nat} (hk : k < n) : (1 ≤ cP xs k ∧ cP xs k ≤ 12) ∧ (1 ≤ cL xs k ∧ cL xs k ≤ 9) ∧ 0 ≤ cF xs k ∧ cF xs k < cT xs k ∧ cT xs k ≤ 1000 := caB_yes (h.each k hk)
/-- Two carries of one load have no count in common. -/
theorem load_apart {n : Nat} {xs : List Int} (h : GoodC n xs) {i k : Nat} (hi : i < n) (hk : k < n) (hl : cL xs i = cL xs k) {t : Int} (h1 : cF xs i ≤ t) (h2 : t < cT xs i) (h3 : cF xs k ≤ t) (h4 : t < cT xs k) : i = k := by
  rcases Nat.lt_trichotomy i k with g | g | g
  · have := clash_load h hk g hl; omega
  · exact g
  · have := clash_load h hi g hl.symm; omega
theorem hoPr_yes {xs : List Int} {load : Int} {c d : Nat} (h : hoPr xs load c d = true) : cL xs d = load ∧ cT xs d = cF xs c ∧ cP xs d ≠ cP xs c := by
  simp only [hoPr, Bool.and_eq_true, beq_iff_eq, bne_iff_ne] at h
  exact ⟨h.1.1, h.1.2, h.2⟩
theorem ho_one {n : Nat} {xs : List Int} (h : GoodC n xs) {load : Int} {c d e : Nat} (hd : d < n) (he : e < n) (h1 : hoPr xs load c d = true) (h2 : hoPr xs load c e = true) : d = e := by
  obtain ⟨a1, a2, _⟩ := hoPr_yes h1
  obtain ⟨b1, b2, _⟩ := hoPr_yes h2
  have g1 := good_in h hd
  have g2 := good_in h he
  exact load_apart h hd he (by rw [a1, b1]) (t := cF xs c - 1) (by omega) (by omega) (by omega) (by omega)
theorem hoIn_yes {n : Nat} {xs : List Int} (hg : GoodC n xs) {load : Int} {c d : Nat} (hd : d < n) (hl : (cL xs c == load) = true) (h : hoPr xs load c d = true) : hoIn n xs load c d = hoTo n xs load c ∧ hoIn n xs load c (d + 1) = hoTo n xs load c ++ [cF xs c] := by
  constructor
  · unfold hoIn
    rw [if_neg]
    simp only [hl, Bool.true_and, List.any_eq_true, List.mem_range]
    rintro ⟨e, he, hp⟩
    have := ho_one hg hd (by omega) h hp
    omega
  · unfold hoIn
    rw [if_pos]
    simp only [hl, Bool.true_and, List.any_eq_true, List.mem_range]
    exact ⟨d, by omega, h⟩
/-- The reference's way to say it. -/
theorem hoAt_spec {n : Nat} {xs : List Int} (h : GoodC n xs) {load : Int} (l1 : 1 ≤ load) {c : Nat} (hc : c < n) (hl : cL xs c = load) (hf : 1 ≤ cF xs c) :
    hoAt n xs load c = (decide (idxAt n xs load 0 (cF xs c - 1) < n) && (cP xs (idxAt n xs load 0 (cF xs c - 1)) != cP xs c)) := by
  have hz : (load == 0) = false := by simp; omega
  have at_ : ∀ k, isAt xs load 0 (cF xs c - 1) k = (cL xs k == load && inB (cF xs c - 1) (cF xs k) (cT xs k - 1)) := by
    intro k; simp only [isAt, hz, Bool.false_or, beq_self_eq_true, Bool.true_or, Bool.and_true]
  obtain ⟨s1, _, s3, s4⟩ := fa_spec (p := isAt xs load 0 (cF xs c - 1)) n 0
  have gc := good_in h hc
  have hlc : (cL xs c == load) = true := by simpa using hl
  rw [Bool.eq_iff_iff]
  simp only [hoAt, hlc, Bool.true_and, List.any_eq_true, List.mem_range, Bool.and_eq_true, decide_eq_true_eq, bne_iff_ne]
  unfold idxAt
  constructor
  · rintro ⟨d, hd, hp⟩
    obtain ⟨a1, a2, a3⟩ := hoPr_yes hp
    have gd := good_in h hd
    have hat : isAt xs load 0 (cF xs c - 1) d = true := by
      rw [at_, a1, beq_self_eq_true, Bool.true_and]
      exact inB_mk (by omega) (by omega)
    have hlt : fa (isAt xs load 0 (cF xs c - 1)) n 0 ≤ d := by
      rcases Nat.lt_or_ge d (fa (isAt xs load 0 (cF xs c - 1)) n 0) with g | g
      · have := s4 d (Nat.zero_le _) g; rw [hat] at this; cases this
      · exact g
    have hi := s1 (by omega)
    have hin : fa (isAt xs load 0 (cF xs c - 1)) n 0 < n := by omega
    obtain ⟨i, ei⟩ : ∃ i, fa (isAt xs load 0 (cF xs c - 1)) n 0 = i := ⟨_, rfl⟩
    rw [ei] at hi hin ⊢
    rw [at_] at hi
    simp only [Bool.and_eq_true, beq_iff_eq] at hi
    have b := inB_yes hi.2
    have : i = d := load_apart h hin hd (by rw [hi.1, a1]) (t := cF xs c - 1) (by omega) (by omega) (by omega) (by omega)
    subst this
    exact ⟨hin, a3⟩
  · rintro ⟨hin, hp⟩
    have hi := s1 (by omega)
    obtain ⟨i, ei⟩ : ∃ i, fa (isAt xs load 0 (cF xs c - 1)) n 0 = i := ⟨_, rfl⟩
    rw [ei] at hi hin hp
    rw [at_] at hi
    simp only [Bool.and_eq_true, beq_iff_eq] at hi
    have b := inB_yes hi.2
    have hic : i < c := by
      rcases Nat.lt_or_ge i c with g | g
      · exact g
      · have := ord_from h.ord i c hin g; omega
    have := clash_load h hc hic (by rw [hi.1, hl])
    refine ⟨i, hin, ?_⟩
    have e2 : cT xs i = cF xs c := by omega
    simp [hoPr, hi.1, e2, hp]
def hnB (n : Nat) (xs : List Int) (load : Int) : Bool := gcB n xs && inB load 1 9
def hnL (n : Nat) (xs : List Int) (load : Int) : List Int := if hnB n xs load = true then hoTo n xs load n else []
end Go.Proofs.YtamehlafmfmgmaaDoor
