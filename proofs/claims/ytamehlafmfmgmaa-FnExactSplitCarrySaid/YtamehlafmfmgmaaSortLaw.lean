/- The reference's order is an ordering of the same carries, none behind one that it comes before. Plain laws, without conditions. -/
import Derived.Test.YtamehlafmfmgmaaPermFn
namespace Go.Proofs.Ytamehlafmfmgmaa
open Go.RowKit

theorem flat_cons (a : Car) (t : List Car) : flat (a :: t) = a.1 :: a.2.1 :: a.2.2.1 :: a.2.2.2 :: flat t := rfl
theorem flat_append (l m : List Car) : flat (l ++ m) = flat l ++ flat m := by simp [flat]
theorem flat_take : ∀ (l : List Car) (k : Nat), (flat l).take (k * 4) = flat (l.take k)
  | [], k => by simp [flat]
  | a :: t, 0 => by simp [flat]
  | a :: t, k + 1 => by
    rw [show (k + 1) * 4 = k * 4 + 1 + 1 + 1 + 1 by omega, flat_cons, List.take_succ_cons, List.take_succ_cons, List.take_succ_cons, List.take_succ_cons, List.take_succ_cons, flat_cons, flat_take t k]
theorem flat_drop : ∀ (l : List Car) (k : Nat), (flat l).drop (k * 4) = flat (l.drop k)
  | [], k => by simp [flat]
  | a :: t, 0 => by simp
  | a :: t, k + 1 => by
    rw [show (k + 1) * 4 = k * 4 + 1 + 1 + 1 + 1 by omega, flat_cons, List.drop_succ_cons, List.drop_succ_cons, List.drop_succ_cons, List.drop_succ_cons, List.drop_succ_cons, flat_drop t k]
theorem carAt_flat (l : List Car) (k : Nat) (h : k < l.length) : carAt (flat l) k = l[k] := by
  have e : l.getD k (0, 0, 0, 0) = l[k] := by simp [List.getD, h]
  have a0 := flat_get l k 0 h (by omega)
  have a1 := flat_get l k 1 h (by omega)
  have a2 := flat_get l k 2 h (by omega)
  have a3 := flat_get l k 3 h (by omega)
  rw [e] at a0 a1 a2 a3
  unfold carAt cP cL cF cT
  rw [a1, a2, a3, show k * 4 = k * 4 + 0 from rfl, a0]
  rfl
theorem carLt_trans {a b c : Car} (h1 : ¬ carLt b a) (h2 : ¬ carLt c b) : ¬ carLt c a := by
  simp only [carLt, befB, Bool.or_eq_true, Bool.and_eq_true, decide_eq_true_eq, beq_iff_eq] at h1 h2 ⊢
  omega
theorem carLt_asym {a b : Car} (h : carLt a b) : ¬ carLt b a := by
  simp only [carLt, befB, Bool.or_eq_true, Bool.and_eq_true, decide_eq_true_eq, beq_iff_eq] at h ⊢
  omega
/-- None stands behind one that it comes before. -/
def Weak (l : List Car) : Prop := l.Pairwise fun a b => ¬ carLt b a
theorem posOf_after {xs : List Int} {l f : Int} : ∀ k i, posOf xs l f k ≤ i → i < k → befB l f (cL xs i) (cF xs i) = true
  | 0, i, _, h => absurd h (by omega)
  | k + 1, i, h1, h2 => by
    rw [posOf] at h1
    split at h1
    · rename_i hb
      rcases Nat.lt_succ_iff_lt_or_eq.1 h2 with h | rfl
      · exact posOf_after k i h1 h
      · exact hb
    · omega
theorem posOf_before {xs : List Int} {l f : Int} : ∀ k, 0 < posOf xs l f k → befB l f (cL xs (posOf xs l f k - 1)) (cF xs (posOf xs l f k - 1)) = false
  | 0, h => absurd h (by simp [posOf])
  | k + 1, h => by
    rw [posOf] at h ⊢
    split at h
    · rename_i hb
      rw [if_pos hb]
      exact posOf_before k h
    · rename_i hb
      rw [if_neg hb, Nat.add_sub_cancel]
      cases hh : befB l f (cL xs k) (cF xs k) with
      | false => rfl
      | true => exact absurd hh hb
theorem weak_ins {l : List Car} {c : Car} {k : Nat} (h : Weak l) (h1 : ∀ a ∈ l.take k, ¬ carLt c a) (h2 : ∀ a ∈ l.drop k, ¬ carLt a c) : Weak (l.take k ++ c :: l.drop k) := by
  unfold Weak at h ⊢
  rw [← List.take_append_drop k l, List.pairwise_append] at h
  rw [List.pairwise_append, List.pairwise_cons]
  refine ⟨h.1, ⟨h2, h.2.1⟩, fun a ha b hb => ?_⟩
  rcases List.mem_cons.1 hb with rfl | hb
  · exact h1 a ha
  · exact h.2.2 a ha b hb
theorem cs_law (src : List Int) : ∀ k, ∃ l : List Car, l.length = k ∧ csTo src k = flat l ∧ l.Perm (cars k src) ∧ Weak l
  | 0 => ⟨[], rfl, rfl, List.Perm.refl _, List.Pairwise.nil⟩
  | k + 1 => by
    obtain ⟨l, hl, he, hp, hw⟩ := cs_law src k
    obtain ⟨j, ej⟩ : ∃ j, posOf (csTo src k) (cL src k) (cF src k) k = j := ⟨_, rfl⟩
    have hjk : j ≤ k := by rw [← ej]; exact posOf_le _ _ _ _
    have key : ∀ i (hi : i < l.length), (cL (csTo src k) i, cF (csTo src k) i) = (l[i].2.1, l[i].2.2.1) := fun i hi => by
      have := carAt_flat l i hi
      rw [← he] at this
      rw [← this]; rfl
    refine ⟨l.take j ++ carAt src k :: l.drop j, ?_, ?_, ?_, ?_⟩
    · simp; omega
    · rw [csTo, ej, insAt, he, flat_take, flat_drop, flat_append, flat_cons]; simp [carAt]
    · have h1 : (l.take j ++ carAt src k :: l.drop j).Perm (carAt src k :: (l.take j ++ l.drop j)) := List.perm_middle
      rw [List.take_append_drop] at h1
      have h2 : cars (k + 1) src = cars k src ++ [carAt src k] := by simp [cars, List.range_succ]
      rw [h2]
      exact h1.trans ((hp.cons _).trans (List.perm_append_comm (l₁ := [carAt src k]) (l₂ := cars k src)))
    · refine weak_ins hw (fun a ha => ?_) (fun a ha => ?_)
      · obtain ⟨i, hi, rfl⟩ := List.getElem_of_mem ha
        rw [List.length_take] at hi
        have hil : i < l.length := by omega
        rw [List.getElem_take]
        have hb := posOf_before (xs := csTo src k) (l := cL src k) (f := cF src k) k (by omega)
        rw [ej] at hb
        have hk1 := key (j - 1) (by omega)
        simp only [Prod.mk.injEq] at hk1
        rw [hk1.1, hk1.2] at hb
        have hlast : ¬ carLt (carAt src k) (l[j - 1]'(by omega)) := by
          unfold carLt carAt; rw [hb]; simp
        rcases Nat.lt_or_ge i (j - 1) with hlt | hge
        · have := List.pairwise_iff_getElem.1 hw i (j - 1) hil (by omega) hlt
          exact carLt_trans this hlast
        · have hij : i = j - 1 := by omega
          subst hij
          exact hlast
      · obtain ⟨i, hi, rfl⟩ := List.getElem_of_mem ha
        rw [List.length_drop] at hi
        rw [List.getElem_drop]
        have hb := posOf_after (xs := csTo src k) (l := cL src k) (f := cF src k) k (j + i) (by omega) (by omega)
        have hk1 := key (j + i) (by omega)
        simp only [Prod.mk.injEq] at hk1
        rw [hk1.1, hk1.2] at hb
        exact carLt_asym (show carLt (carAt src k) _ from hb)
theorem carLt_chain {a b c : Car} (h1 : carLt a b) (h2 : carLt b c) : carLt a c := by
  simp only [carLt, befB, Bool.or_eq_true, Bool.and_eq_true, decide_eq_true_eq, beq_iff_eq] at h1 h2 ⊢
  omega
theorem strict_of {n : Nat} {l : List Car} (hl : l.length = n) (h : gcB n (flat l) = true) : l.Pairwise carLt := by
  have g := gc_yes h
  have one : ∀ k (h1 : k + 1 < l.length), carLt (l[k]'(by omega)) l[k + 1] := fun k h1 => by
    have ho := g.ord (k + 1) (by omega)
    rw [ord_pos (by omega), Nat.add_sub_cancel] at ho
    have e1 := carAt_flat l k (by omega)
    have e2 := carAt_flat l (k + 1) h1
    rw [← e1, ← e2]
    exact ho
  rw [List.pairwise_iff_getElem]
  intro i j hi hj hij
  obtain ⟨d, rfl⟩ : ∃ d, j = i + 1 + d := ⟨j - (i + 1), by omega⟩
  induction d with
  | zero => exact one i hj
  | succ d ih => exact carLt_chain (ih (by omega) (by omega)) (one (i + 1 + d) hj)
/-- Whatever orders the same carries, none behind one that it comes before, gives what the reference gives, if that is valid; else it is not valid. -/
theorem cs_any {n : Nat} {xs : List Int} {l : List Car} (hp : l.Perm (cars n xs)) (hw : Weak l) : gcB n (flat l) = csB n xs ∧ (csB n xs = true → flat l = csTo xs n) := by
  obtain ⟨m, hm, he, hp2, hw2⟩ := cs_law xs n
  have hl : l.length = n := by rw [hp.length_eq]; simp [cars]
  have hlm : l.Perm m := hp.trans hp2.symm
  have h1 : gcB n (flat l) = true → l = m := fun h => perm_eq l m hlm (strict_of hl h) hw2
  have h2 : gcB n (flat m) = true → m = l := fun h => perm_eq m l hlm.symm (strict_of hm h) hw
  have e : csB n xs = gcB n (flat m) := by rw [csB, he]
  refine ⟨?_, fun h => ?_⟩
  · rw [e]
    cases ha : gcB n (flat l) with
    | true => rw [← h1 ha, ha]
    | false =>
      cases hb : gcB n (flat m) with
      | false => rfl
      | true => rw [h2 hb, ha] at hb; cases hb
  · rw [he, h2 (by rw [← e]; exact h)]
end Go.Proofs.Ytamehlafmfmgmaa
