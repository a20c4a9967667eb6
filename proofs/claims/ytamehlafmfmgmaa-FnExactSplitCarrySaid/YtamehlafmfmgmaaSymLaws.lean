/- Carries put into order one by one, each behind those that do not come after it: plain laws. Without conditions. Two orderings of the same carries: if one is strict, they are the same list. Plain laws, without conditions. The reference's order is an ordering of the same carries, none behind one that it comes before. Plain laws, without conditions. The parts of a merge by rotation: which come before which. Plain laws, without conditions. Two elements change places, two ranges do, two neighbouring parts do: plain laws of lists. Without conditions. A merge by rotation: where the two parts are cut, and what comes of it. Plain laws of lists. Without conditions. A carry that is split at a count: plain laws. Without conditions. -/
import Derived.Test.YtamehlafmfmgmaaCarryFn
namespace Go.Proofs.Ytamehlafmfmgmaa
open Go.RowKit

/-- Where a carry goes among the first k, looked for from their end. -/
def posOf (xs : List Int) (l f : Int) : Nat → Nat
  | 0 => 0
  | k + 1 => if befB l f (cL xs k) (cF xs k) = true then posOf xs l f k else k + 1
theorem posOf_le (xs : List Int) (l f : Int) : ∀ k, posOf xs l f k ≤ k
  | 0 => Nat.le_refl _
  | k + 1 => by
    have := posOf_le xs l f k
    rw [posOf]
    split <;> omega
theorem posOf_no {xs : List Int} {l f : Int} {k : Nat} (hk : 0 < k) (h : befB l f (cL xs (k - 1)) (cF xs (k - 1)) = false) : posOf xs l f k = k := by
  obtain ⟨m, rfl⟩ : ∃ m, k = m + 1 := ⟨k - 1, by omega⟩
  rw [Nat.add_sub_cancel] at h
  rw [posOf, h]; rfl
theorem posOf_yes {xs : List Int} {l f : Int} {k : Nat} (hk : 0 < k) (h : befB l f (cL xs (k - 1)) (cF xs (k - 1)) = true) : posOf xs l f k = posOf xs l f (k - 1) := by
  obtain ⟨m, rfl⟩ : ∃ m, k = m + 1 := ⟨k - 1, by omega⟩
  rw [Nat.add_sub_cancel] at h ⊢
  rw [posOf, h]; rfl
def insAt (xs : List Int) (k : Nat) (c : List Int) : List Int := xs.take (k * 4) ++ c ++ xs.drop (k * 4)
theorem insAt_length {xs c : List Int} {k n : Nat} (hl : xs.length = n * 4) (hk : k ≤ n) (hc : c.length = 4) : (insAt xs k c).length = (n + 1) * 4 := by
  simp only [insAt, List.length_append, List.length_take, List.length_drop, hl, hc]; omega
/-- The first k carries of a list, put into order. -/
def csTo (src : List Int) : Nat → List Int
  | 0 => []
  | k + 1 => insAt (csTo src k) (posOf (csTo src k) (cL src k) (cF src k) k) [cP src k, cL src k, cF src k, cT src k]
theorem csTo_length (src : List Int) : ∀ k, (csTo src k).length = k * 4
  | 0 => rfl
  | k + 1 => insAt_length (csTo_length src k) (posOf_le _ _ _ _) rfl
theorem csTo_next {src ys : List Int} {k j : Nat} {p l f t : Int} (hy : csTo src k = ys) (hp : cP src k = p) (hl : cL src k = l) (hf : cF src k = f) (ht : cT src k = t) (hj : posOf ys l f k = j) :
    csTo src (k + 1) = ys.take (j * 4) ++ [p, l, f, t] ++ ys.drop (j * 4) := by
  rw [csTo, hy, hp, hl, hf, ht, hj]; rfl
def csB (n : Nat) (xs : List Int) : Bool := gcB n (csTo xs n)
def csL (n : Nat) (xs : List Int) : List Int := if csB n xs = true then csTo xs n else []
def csN (n : Nat) (xs : List Int) : Nat := if csB n xs = true then n else 0
theorem cs_yes {n : Nat} {xs : List Int} (h : gcB n (csTo xs n) = true) : csB n xs = true ∧ csL n xs = csTo xs n ∧ csN n xs = n := by
  have h' : csB n xs = true := h
  exact ⟨h', by rw [csL, if_pos h'], by rw [csN, if_pos h']⟩
theorem cs_no {n : Nat} {xs : List Int} (h : gcB n (csTo xs n) = false) : csB n xs = false ∧ csL n xs = [] ∧ csN n xs = 0 := by
  have h' : csB n xs = false := h
  have h2 : ¬ csB n xs = true := by rw [h']; simp
  exact ⟨h', by rw [csL, if_neg h2], by rw [csN, if_neg h2]⟩
end Go.Proofs.Ytamehlafmfmgmaa
namespace Go.Proofs.Ytamehlafmfmgmaa
open Go.RowKit

theorem perm_eq {α : Type} {lt : α → α → Prop} : ∀ l1 l2 : List α, l1.Perm l2 → l1.Pairwise lt → l2.Pairwise (fun a b => ¬ lt b a) → l1 = l2
  | [], l2, h, _, _ => h.nil_eq
  | a :: t, [], h, _, _ => absurd h.length_eq (by simp)
  | a :: t, b :: t2, h, h1, h2 => by
    rw [List.pairwise_cons] at h1 h2
    have hab : a = b := by
      rcases Classical.em (a = b) with e | e
      · exact e
      · exfalso
        have m1 : a ∈ b :: t2 := h.mem_iff.1 (List.mem_cons_self ..)
        have m2 : b ∈ a :: t := h.mem_iff.2 (List.mem_cons_self ..)
        rcases List.mem_cons.1 m1 with e1 | m1
        · exact e e1
        · rcases List.mem_cons.1 m2 with e2 | m2
          · exact e e2.symm
          · exact h2.1 a m1 (h1.1 b m2)
    subst hab
    rw [perm_eq t t2 ((List.perm_cons a).1 h) h1.2 h2.2]
/-- The carries of a flat list, one by one. -/
abbrev Car := Int × Int × Int × Int
def carAt (xs : List Int) (k : Nat) : Car := (cP xs k, cL xs k, cF xs k, cT xs k)
def cars (n : Nat) (xs : List Int) : List Car := (List.range n).map (carAt xs)
def flat (l : List Car) : List Int := l.flatMap fun c => [c.1, c.2.1, c.2.2.1, c.2.2.2]
def carLt (a b : Car) : Prop := befB a.2.1 a.2.2.1 b.2.1 b.2.2.1 = true
theorem flat_length (l : List Car) : (flat l).length = l.length * 4 := by
  induction l with
  | nil => rfl
  | cons a t ih =>
    have : flat (a :: t) = [a.1, a.2.1, a.2.2.1, a.2.2.2] ++ flat t := rfl
    rw [this, List.length_append, ih, List.length_cons, List.length_cons, List.length_cons, List.length_cons, List.length_cons, List.length_nil]; omega
theorem flat_get (l : List Car) : ∀ k j, k < l.length → j < 4 → (flat l).getD (k * 4 + j) 0 = [(l.getD k (0, 0, 0, 0)).1, (l.getD k (0, 0, 0, 0)).2.1, (l.getD k (0, 0, 0, 0)).2.2.1, (l.getD k (0, 0, 0, 0)).2.2.2].getD j 0 := by
  induction l with
  | nil => intro k j h _; exact absurd h (by simp)
  | cons a t ih =>
    intro k j hk hj
    have e : flat (a :: t) = [a.1, a.2.1, a.2.2.1, a.2.2.2] ++ flat t := rfl
    rw [e]
    cases k with
    | zero =>
      match j, hj with
      | 0, _ => rfl
      | 1, _ => rfl
      | 2, _ => rfl
      | 3, _ => rfl
    | succ k =>
      have := ih k j (by simpa using hk) hj
      rw [show (k + 1) * 4 + j = (k * 4 + j) + 1 + 1 + 1 + 1 by omega]
      simpa using this
theorem befB_irr (l f l' f' : Int) (h : befB l f l' f' = true) : befB l' f' l f = false := by
  cases hh : befB l' f' l f with
  | false => rfl
  | true =>
    simp only [befB, Bool.or_eq_true, Bool.and_eq_true, decide_eq_true_eq, beq_iff_eq] at h hh
    omega
end Go.Proofs.Ytamehlafmfmgmaa
namespace Go.Proofs.Ytamehlafmfmgmaa
open Go.RowKit

theorem flat_cons (a : Car) (t : List Car) : flat (a :: t) = a.1 :: a.2.1 :: a.2.2.1 :: a.2.2.2 :: flat t := rfl
theorem flat_append (l m : List Car) : flat (l ++ m) = flat l ++ flat m := by simp [flat]
theorem flat_take : ∀ (l : List Car) (k : Nat), (flat l).take (k * 4) = flat (l.take k)
  | [], k => by simp [flat]
  | a :: t, 0 => by simp [flat]
  | a :: t, k + 1 => by
    rw [show (k + 1) * 4 = k * 4 + 1 + 1 + 1 + 1 by omega, flat_cons, List.take_succ_cons, List.take_succ_cons, List.take_succ_cons, List.take_succ_cons, List.take_succ_cons, flat_cons, flat_take t k]
theorem flat_drop : ∀ (l : List Car) (k : Nat), (flat l).drop (k * 4) = flat (l.drop k)
  | [], k => by simp [flat]
  | a :: t, 0 => by simp
  | a :: t, k + 1 => by
    rw [show (k + 1) * 4 = k * 4 + 1 + 1 + 1 + 1 by omega, flat_cons, List.drop_succ_cons, List.drop_succ_cons, List.drop_succ_cons, List.drop_succ_cons, List.drop_succ_cons, flat_drop t k]
theorem carAt_flat (l : List Car) (k : Nat) (h : k < l.length) : carAt (flat l) k = l[k] := by
  have e : l.getD k (0, 0, 0, 0) = l[k] := by simp [List.getD, h]
  have a0 := flat_get l k 0 h (by omega)
  have a1 := flat_get l k 1 h (by omega)
  have a2 := flat_get l k 2 h (by omega)
  have a3 := flat_get l k 3 h (by omega)
  rw [e] at a0 a1 a2 a3
  unfold carAt cP cL cF cT
  rw [a1, a2, a3, show k * 4 = k * 4 + 0 from rfl, a0]
  rfl
theorem carLt_trans {a b c : Car} (h1 : ¬ carLt b a) (h2 : ¬ carLt c b) : ¬ carLt c a := by
  simp only [carLt, befB, Bool.or_eq_true, Bool.and_eq_true, decide_eq_true_eq, beq_iff_eq] at h1 h2 ⊢
  omega
theorem carLt_asym {a b : Car} (h : carLt a b) : ¬ carLt b a := by
  simp only [carLt, befB, Bool.or_eq_true, Bool.and_eq_true, decide_eq_true_eq, beq_iff_eq] at h ⊢
  omega
/-- None stands behind one that it comes before. -/
def Weak (l : List Car) : Prop := l.Pairwise fun a b => ¬ carLt b a
theorem posOf_after {xs : List Int} {l f : Int} : ∀ k i, posOf xs l f k ≤ i → i < k → befB l f (cL xs i) (cF xs i) = true
  | 0, i, _, h => absurd h (by omega)
  | k + 1, i, h1, h2 => by
    rw [posOf] at h1
    split at h1
    · rename_i hb
      rcases Nat.lt_succ_iff_lt_or_eq.1 h2 with h | rfl
      · exact posOf_after k i h1 h
      · exact hb
    · omega
theorem posOf_before {xs : List Int} {l f : Int} : ∀ k, 0 < posOf xs l f k → befB l f (cL xs (posOf xs l f k - 1)) (cF xs (posOf xs l f k - 1)) = false
  | 0, h => absurd h (by simp [posOf])
  | k + 1, h => by
    rw [posOf] at h ⊢
    split at h
    · rename_i hb
      rw [if_pos hb]
      exact posOf_before k h
    · rename_i hb
      rw [if_neg hb, Nat.add_sub_cancel]
      cases hh : befB l f (cL xs k) (cF xs k) with
      | false => rfl
      | true => exact absurd hh hb
theorem weak_ins {l : List Car} {c : Car} {k : Nat} (h : Weak l) (h1 : ∀ a ∈ l.take k, ¬ carLt c a) (h2 : ∀ a ∈ l.drop k, ¬ carLt a c) : Weak (l.take k ++ c :: l.drop k) := by
  unfold Weak at h ⊢
  rw [← List.take_append_drop k l, List.pairwise_append] at h
  rw [List.pairwise_append, List.pairwise_cons]
  refine ⟨h.1, ⟨h2, h.2.1⟩, fun a ha b hb => ?_⟩
  rcases List.mem_cons.1 hb with rfl | hb
  · exact h1 a ha
  · exact h.2.2 a ha b hb
theorem cs_law (src : List Int) : ∀ k, ∃ l : List Car, l.length = k ∧ csTo src k = flat l ∧ l.Perm (cars k src) ∧ Weak l
  | 0 => ⟨[], rfl, rfl, List.Perm.refl _, List.Pairwise.nil⟩
  | k + 1 => by
    obtain ⟨l, hl, he, hp, hw⟩ := cs_law src k
    obtain ⟨j, ej⟩ : ∃ j, posOf (csTo src k) (cL src k) (cF src k) k = j := ⟨_, rfl⟩
    have hjk : j ≤ k := by rw [← ej]; exact posOf_le _ _ _ _
    have key : ∀ i (hi : i < l.length), (cL (csTo src k) i, cF (csTo src k) i) = (l[i].2.1, l[i].2.2.1) := fun i hi => by
      have := carAt_flat l i hi
      rw [← he] at this
      rw [← this]; rfl
    refine ⟨l.take j ++ carAt src k :: l.drop j, ?_, ?_, ?_, ?_⟩
    · simp; omega
    · rw [csTo, ej, insAt, he, flat_take, flat_drop, flat_append, flat_cons]; simp [carAt]
    · have h1 : (l.take j ++ carAt src k :: l.drop j).Perm (carAt src k :: (l.take j ++ l.drop j)) := List.perm_middle
      rw [List.take_append_drop] at h1
      have h2 : cars (k + 1) src = cars k src ++ [carAt src k] := by simp [cars, List.range_succ]
      rw [h2]
      exact h1.trans ((hp.cons _).trans (List.perm_append_comm (l₁ := [carAt src k]) (l₂ := cars k src)))
    · refine weak_ins hw (fun a ha => ?_) (fun a ha => ?_)
      · obtain ⟨i, hi, rfl⟩ := List.getElem_of_mem ha
        rw [List.length_take] at hi
        have hil : i < l.length := by omega
        rw [List.getElem_take]
        have hb := posOf_before (xs := csTo src k) (l := cL src k) (f := cF src k) k (by omega)
        rw [ej] at hb
        have hk1 := key (j - 1) (by omega)
        simp only [Prod.mk.injEq] at hk1
        rw [hk1.1, hk1.2] at hb
        have hlast : ¬ carLt (carAt src k) (l[j - 1]'(by omega)) := by
          unfold carLt carAt; rw [hb]; simp
        rcases Nat.lt_or_ge i (j - 1) with hlt | hge
        · have := List.pairwise_iff_getElem.1 hw i (j - 1) hil (by omega) hlt
          exact carLt_trans this hlast
        · have hij : i = j - 1 := by omega
          subst hij
          exact hlast
      · obtain ⟨i, hi, rfl⟩ := List.getElem_of_mem ha
        rw [List.length_drop] at hi
        rw [List.getElem_drop]
        have hb := posOf_after (xs := csTo src k) (l := cL src k) (f := cF src k) k (j + i) (by omega) (by omega)
        have hk1 := key (j + i) (by omega)
        simp only [Prod.mk.injEq] at hk1
        rw [hk1.1, hk1.2] at hb
        exact carLt_asym (show carLt (carAt src k) _ from hb)
theorem carLt_chain {a b c : Car} (h1 : carLt a b) (h2 : carLt b c) : carLt a c := by
  simp only [carLt, befB, Bool.or_eq_true, Bool.and_eq_true, decide_eq_true_eq, beq_iff_eq] at h1 h2 ⊢
  omega
theorem strict_of {n : Nat} {l : List Car} (hl : l.length = n) (h : gcB n (flat l) = true) : l.Pairwise carLt := by
  have g := gc_yes h
  have one : ∀ k (h1 : k + 1 < l.length), carLt (l[k]'(by omega)) l[k + 1] := fun k h1 => by
    have ho := g.ord (k + 1) (by omega)
    rw [ord_pos (by omega), Nat.add_sub_cancel] at ho
    have e1 := carAt_flat l k (by omega)
    have e2 := carAt_flat l (k + 1) h1
    rw [← e1, ← e2]
    exact ho
  rw [List.pairwise_iff_getElem]
  intro i j hi hj hij
  obtain ⟨d, rfl⟩ : ∃ d, j = i + 1 + d := ⟨j - (i + 1), by omega⟩
  induction d with
  | zero => exact one i hj
  | succ d ih => exact carLt_chain (ih (by omega) (by omega)) (one (i + 1 + d) hj)
/-- Whatever orders the same carries, none behind one that it comes before, gives what the reference gives, if that is valid; else it is not valid. -/
theorem cs_any {n : Nat} {xs : List Int} {l : List Car} (hp : l.Perm (cars n xs)) (hw : Weak l) : gcB n (flat l) = csB n xs ∧ (csB n xs = true → flat l = csTo xs n) := by
  obtain ⟨m, hm, he, hp2, hw2⟩ := cs_law xs n
  have hl : l.length = n := by rw [hp.length_eq]; simp [cars]
  have hlm : l.Perm m := hp.trans hp2.symm
  have h1 : gcB n (flat l) = true → l = m := fun h => perm_eq l m hlm (strict_of hl h) hw2
  have h2 : gcB n (flat m) = true → m = l := fun h => perm_eq m l hlm.symm (strict_of hm h) hw
  have e : csB n xs = gcB n (flat m) := by rw [csB, he]
  refine ⟨?_, fun h => ?_⟩
  · rw [e]
    cases ha : gcB n (flat l) with
    | true => rw [← h1 ha, ha]
    | false =>
      cases hb : gcB n (flat m) with
      | false => rfl
      | true => rw [h2 hb, ha] at hb; cases hb
  · rw [he, h2 (by rw [← e]; exact h)]
end Go.Proofs.Ytamehlafmfmgmaa
namespace Go.Proofs.Ytamehlafmfmgmaa
open Go.RowKit

/-- Each of the one comes weakly before each of the other. -/
def Before (l m : List Car) : Prop := ∀ x ∈ l, ∀ y ∈ m, ¬ carLt y x
theorem weak_two {l m : List Car} : Weak (l ++ m) ↔ Weak l ∧ Weak m ∧ Before l m := by
  unfold Weak Before
  rw [List.pairwise_append]
theorem carLt_irr (a : Car) : ¬ carLt a a := fun h => carLt_asym h h
theorem before_last {l : List Car} {z : Car} (h : Weak (l ++ [z])) : ∀ x ∈ l ++ [z], ¬ carLt z x := by
  intro x hx
  rcases List.mem_append.1 hx with hx | hx
  · exact (weak_two.1 h).2.2 x hx z (by simp)
  · rw [List.mem_singleton.1 hx]; exact carLt_irr z
theorem before_first {l : List Car} {z : Car} (h : Weak (z :: l)) : ∀ y ∈ z :: l, ¬ carLt y z := by
  intro y hy
  rcases List.mem_cons.1 hy with rfl | hy
  · exact carLt_irr y
  · exact (List.pairwise_cons.1 h).1 y hy
/-- If the last of the one comes weakly before the first of the other, so do all. -/
theorem before_ends {l m : List Car} {x y : Car} (hl : Weak (l ++ [x])) (hm : Weak (y :: m)) (h : ¬ carLt y x) : Before (l ++ [x]) (y :: m) := fun u hu v hv =>
  carLt_trans (carLt_trans (before_last hl u hu) h) (before_first hm v hv)
/-- The four parts of a merge: A B is in order, C D is; B and C change places. -/
theorem merge_parts {A B C D P Q : List Car} (h1 : Weak (A ++ B)) (h2 : Weak (C ++ D)) (h3 : Before A D) (h4 : Before C B) (hp : P.Perm (A ++ C)) (hq : Q.Perm (B ++ D)) (wp : Weak P) (wq : Weak Q) : Weak (P ++ Q) ∧ (P ++ Q).Perm (A ++ B ++ (C ++ D)) := by
  obtain ⟨_, _, k1⟩ := weak_two.1 h1
  obtain ⟨_, _, k2⟩ := weak_two.1 h2
  refine ⟨weak_two.2 ⟨wp, wq, fun x hx y hy => ?_⟩, ?_⟩
  · rcases List.mem_append.1 (hp.mem_iff.1 hx) with hx | hx <;> rcases List.mem_append.1 (hq.mem_iff.1 hy) with hy | hy
    · exact k1 x hx y hy
    · exact h3 x hx y hy
    · exact h4 x hx y hy
    · exact k2 x hx y hy
  · refine (hp.append hq).trans ?_
    rw [List.append_assoc, List.append_assoc]
    refine List.Perm.append_left A ?_
    rw [← List.append_assoc, ← List.append_assoc]
    exact List.Perm.append_right D List.perm_append_comm
end Go.Proofs.Ytamehlafmfmgmaa
namespace Go.Proofs.Ytamehlafmfmgmaa
open Go.RowKit

abbrev c0 : Car := (0, 0, 0, 0)
def exch (l : List Car) (i j : Nat) : List Car := (l.set i (l.getD j c0)).set j (l.getD i c0)
theorem exch_length (l : List Car) (i j : Nat) : (exch l i j).length = l.length := by simp [exch]
theorem exch_get {l : List Car} {i j : Nat} (hi : i < l.length) (hj : j < l.length) (t : Nat) : (exch l i j)[t]? = if t = j then l[i]? else if t = i then l[j]? else l[t]? := by
  have e1 : some (l.getD i c0) = l[i]? := by simp [List.getD, hi]
  have e2 : some (l.getD j c0) = l[j]? := by simp [List.getD, hj]
  simp only [exch, List.getElem?_set, List.length_set]
  by_cases h1 : j = t
  · subst h1; simp [hj, hi]
  · have h1' : ¬ t = j := fun e => h1 e.symm
    by_cases h2 : i = t
    · subst h2; simp [h1, h1', hi, hj]
    · have h2' : ¬ t = i := fun e => h2 e.symm
      simp [h1, h1', h2, h2']
theorem exch_next (u v : List Car) (x y : Car) : exch (u ++ y :: x :: v) (u.length + 1) u.length = u ++ x :: y :: v ∧ exch (u ++ y :: x :: v) u.length (u.length + 1) = u ++ x :: y :: v := by
  constructor <;> simp [exch]
/-- k elements from a on change places with those from b on. -/
def exchR (l : List Car) (a b : Nat) : Nat → List Car
  | 0 => l
  | k + 1 => exch (exchR l a b k) (a + k) (b + k)
theorem exchR_length (l : List Car) (a b : Nat) : ∀ k, (exchR l a b k).length = l.length
  | 0 => rfl
  | k + 1 => by rw [exchR, exch_length, exchR_length l a b k]
theorem exchR_get {l : List Car} {a b : Nat} : ∀ k, a + k ≤ b → b + k ≤ l.length → ∀ t, (exchR l a b k)[t]? = if a ≤ t ∧ t < a + k then l[t - a + b]? else if b ≤ t ∧ t < b + k then l[t - b + a]? else l[t]?
  | 0, _, _, t => by
    rw [exchR, if_neg (by omega), if_neg (by omega)]
  | k + 1, h1, h2, t => by
    have ih := exchR_get (l := l) (a := a) (b := b) k (by omega) (by omega)
    rw [exchR, exch_get (by rw [exchR_length]; omega) (by rw [exchR_length]; omega), ih, ih, ih]
    by_cases t1 : t = b + k
    · subst t1
      rw [if_pos rfl, if_neg (by omega), if_neg (by omega), if_neg (by omega), if_pos (by omega), show b + k - b + a = a + k by omega]
    · rw [if_neg t1]
      by_cases t2 : t = a + k
      · subst t2
        rw [if_pos rfl, if_neg (by omega), if_neg (by omega), if_pos (by omega), show a + k - a + b = b + k by omega]
      · rw [if_neg t2]
        by_cases t3 : a ≤ t ∧ t < a + k
        · rw [if_pos t3, if_pos (by omega)]
        · rw [if_neg t3]
          by_cases t4 : b ≤ t ∧ t < b + k
          · rw [if_pos t4, if_neg (by omega), if_pos (by omega)]
          · rw [if_neg t4, if_neg (by omega), if_neg (by omega)]
/-- Those from m to b come ahead of those from a to m. -/
def rotd (l : List Car) (a m b : Nat) : List Car := l.take a ++ ((l.drop m).take (b - m) ++ ((l.drop a).take (m - a) ++ l.drop b))
theorem rotd_length {l : List Car} {a m b : Nat} (h1 : a ≤ m) (h2 : m ≤ b) (h3 : b ≤ l.length) : (rotd l a m b).length = l.length := by
  simp only [rotd, List.length_append, List.length_take, List.length_drop]; omega
theorem rotd_get {l : List Car} {a m b : Nat} (h1 : a ≤ m) (h2 : m ≤ b) (h3 : b ≤ l.length) (t : Nat) :
    (rotd l a m b)[t]? = if t < a then l[t]? else if t < a + (b - m) then l[t - a + m]? else if t < b then l[t - (b - m)]? else l[t]? := by
  simp only [rotd, List.getElem?_append, List.length_take, List.length_drop, List.getElem?_take, List.getElem?_drop]
  by_cases t1 : t < a
  · rw [if_pos (by omega), if_pos t1, if_pos t1]
  · rw [if_neg (by omega), if_neg t1]
    by_cases t2 : t < a + (b - m)
    · rw [if_pos (by omega), if_pos (by omega), if_pos t2]
      congr 1; omega
    · rw [if_neg (by omega), if_neg t2]
      by_cases t3 : t < b
      · rw [if_pos (by omega), if_pos (by omega), if_pos t3]
        congr 1; omega
      · rw [if_neg (by omega), if_neg t3]
        congr 1; omega
/-- One round of a rotation, the left part being longer. -/
theorem rotd_left {l : List Car} {m i j : Nat} (h1 : i ≤ m) (h2 : m + j ≤ l.length) (h : j ≤ i) : rotd (exchR l (m - i) m j) (m - (i - j)) m (m + j) = rotd l (m - i) m (m + j) := by
  have hl := exchR_length l (m - i) m j
  apply List.ext_getElem?
  intro t
  rw [rotd_get (by omega) (by omega) (by omega), rotd_get (by omega) (by omega) (by omega)]
  have g := exchR_get (l := l) (a := m - i) (b := m) j (by omega) (by omega)
  rw [g, g, g]
  by_cases t1 : t < m - i
  · rw [if_pos (by omega), if_neg (by omega), if_neg (by omega), if_pos t1]
  · rw [if_neg (c := t < m - i) t1]
    by_cases t2 : t < m - i + (m + j - m)
    · rw [if_pos (c := t < m - i + (m + j - m)) t2, if_pos (by omega), if_pos (by omega)]
    · rw [if_neg (c := t < m - i + (m + j - m)) t2, if_neg (by omega)]
      by_cases t3 : t < m + j
      · rw [if_pos (c := t < m + j) t3, if_pos (c := t < m + j) t3]
        by_cases t4 : t < m - (i - j) + (m + j - m)
        · rw [if_pos t4, if_neg (by omega), if_pos (by omega)]
          congr 1; omega
        · rw [if_neg t4, if_neg (by omega), if_neg (by omega)]
      · rw [if_neg (c := t < m + j) t3, if_neg (c := t < m + j) t3, if_neg (by omega), if_neg (by omega), if_neg (by omega)]
/-- One round of a rotation, the right part being longer. -/
theorem rotd_right {l : List Car} {m i j : Nat} (h1 : i ≤ m) (h2 : m + j ≤ l.length) (h : i ≤ j) : rotd (exchR l (m - i) (m + j - i) i) (m - i) m (m + (j - i)) = rotd l (m - i) m (m + j) := by
  have hl := exchR_length l (m - i) (m + j - i) i
  apply List.ext_getElem?
  intro t
  rw [rotd_get (by omega) (by omega) (by omega), rotd_get (by omega) (by omega) (by omega)]
  have g := exchR_get (l := l) (a := m - i) (b := m + j - i) i (by omega) (by omega)
  rw [g, g, g]
  by_cases t1 : t < m - i
  · rw [if_pos t1, if_neg (by omega), if_neg (by omega), if_pos t1]
  · rw [if_neg (c := t < m - i) t1, if_neg (c := t < m - i) t1]
    by_cases t2 : t < m - i + (m + (j - i) - m)
    · rw [if_pos t2, if_neg (by omega), if_neg (by omega), if_pos (by omega)]
    · rw [if_neg t2]
      by_cases t3 : t < m + (j - i)
      · rw [if_pos t3, if_pos (by omega), if_pos (by omega)]
        congr 1; omega
      · rw [if_neg t3]
        by_cases t4 : t < m + j
        · rw [if_neg (by omega), if_pos (by omega), if_neg (by omega), if_pos t4]
          congr 1; omega
        · rw [if_neg (by omega), if_neg (by omega), if_neg (by omega), if_neg t4]
theorem rotd_even {l : List Car} {m i : Nat} (h1 : i ≤ m) (h2 : m + i ≤ l.length) : exchR l (m - i) m i = rotd l (m - i) m (m + i) := by
  apply List.ext_getElem?
  intro t
  rw [rotd_get (by omega) (by omega) (by omega), exchR_get (l := l) (a := m - i) (b := m) i (by omega) (by omega)]
  by_cases t1 : t < m - i
  · rw [if_neg (by omega), if_neg (by omega), if_pos t1]
  · rw [if_neg t1]
    by_cases t2 : t < m - i + (m + i - m)
    · rw [if_pos t2, if_pos (by omega)]
    · rw [if_neg t2, if_neg (by omega)]
      by_cases t3 : t < m + i
      · rw [if_pos t3, if_pos (by omega)]
        congr 1; omega
      · rw [if_neg t3, if_neg (by omega)]
/-- The parts of a rotation by their lists. -/
theorem rotd_parts (p a b s : List Car) {m e : Nat} (hm : m = p.length + a.length) (he : e = p.length + a.length + b.length) : rotd (p ++ (a ++ (b ++ s))) p.length m e = p ++ (b ++ (a ++ s)) := by
  subst hm he
  unfold rotd
  rw [List.take_left, List.drop_left, Nat.add_sub_cancel_left, Nat.add_sub_cancel_left, List.take_left]
  have e1 : (p ++ (a ++ (b ++ s))).drop (p.length + a.length) = b ++ s := by
    rw [← List.append_assoc, ← List.length_append]; exact List.drop_left
  have e2 : (p ++ (a ++ (b ++ s))).drop (p.length + a.length + b.length) = s := by
    rw [← List.append_assoc, ← List.append_assoc, ← List.length_append, ← List.length_append]; exact List.drop_left
  rw [e1, e2, List.take_left]
theorem flat_set : ∀ (l : List Car) (i : Nat) (c : Car), ((((flat l).set (i * 4) c.1).set (i * 4 + 1) c.2.1).set (i * 4 + 2) c.2.2.1).set (i * 4 + 3) c.2.2.2 = flat (l.set i c)
  | [], i, c => by simp [flat]
  | a :: t, 0, c => by rw [List.set_cons_zero, flat_cons, flat_cons]; simp
  | a :: t, i + 1, c => by
    have ih := flat_set t i c
    rw [List.set_cons_succ, flat_cons, flat_cons, ← ih]
    have e : ∀ q, (i + 1) * 4 + q = (i * 4 + q) + 1 + 1 + 1 + 1 := fun q => by omega
    have e0 : (i + 1) * 4 = i * 4 + 1 + 1 + 1 + 1 := by omega
    rw [e 1, e 2, e 3, e0]
    simp only [List.set_cons_succ]
theorem flat_at (l : List Car) (i : Nat) (h : i < l.length) : (flat l).getD (i * 4) 0 = (l.getD i c0).1 ∧ (flat l).getD (i * 4 + 1) 0 = (l.getD i c0).2.1 ∧ (flat l).getD (i * 4 + 2) 0 = (l.getD i c0).2.2.1 ∧ (flat l).getD (i * 4 + 3) 0 = (l.getD i c0).2.2.2 :=
  ⟨flat_get l i 0 h (by omega), flat_get l i 1 h (by omega), flat_get l i 2 h (by omega), flat_get l i 3 h (by omega)⟩
end Go.Proofs.Ytamehlafmfmgmaa
namespace Go.Proofs.Ytamehlafmfmgmaa
open Go.RowKit

def carOk (c : Car) : Prop := caB c.1 c.2.1 c.2.2.1 c.2.2.2 = true
def AllOk (l : List Car) : Prop := ∀ c ∈ l, carOk c
theorem allOk_app {l m : List Car} : AllOk (l ++ m) ↔ AllOk l ∧ AllOk m := by
  unfold AllOk
  constructor
  · intro h; exact ⟨fun c hc => h c (List.mem_append_left _ hc), fun c hc => h c (List.mem_append_right _ hc)⟩
  · rintro ⟨h1, h2⟩ c hc
    rcases List.mem_append.1 hc with hc | hc
    · exact h1 c hc
    · exact h2 c hc
theorem allOk_perm {l m : List Car} (h : l.Perm m) (hm : AllOk m) : AllOk l := fun c hc => hm c (h.mem_iff.1 hc)
theorem getD_mem {l : List Car} {i : Nat} (h : i < l.length) : l.getD i c0 ∈ l := by
  have : l.getD i c0 = l[i] := by simp [List.getD, h]
  rw [this]; exact List.getElem_mem _
theorem allOk_exch {l : List Car} {i j : Nat} (h : AllOk l) (hi : i < l.length) (hj : j < l.length) : AllOk (exch l i j) := by
  intro c hc
  unfold exch at hc
  rcases List.mem_or_eq_of_mem_set hc with hc | rfl
  · rcases List.mem_or_eq_of_mem_set hc with hc | rfl
    · exact h c hc
    · exact h _ (getD_mem hj)
  · exact h _ (getD_mem hi)
theorem getD_at (p : List Car) (x : Car) (s : List Car) {i : Nat} (hi : i = p.length) : (p ++ x :: s).getD i c0 = x := by
  subst hi; simp [List.getD]
theorem part_two {l : List Car} {k : Nat} (h : k ≤ l.length) : ∃ u v : List Car, l = u ++ v ∧ u.length = k := ⟨l.take k, l.drop k, (List.take_append_drop k l).symm, by simp; omega⟩
theorem last_of {l : List Car} (h : 0 < l.length) : ∃ u x, l = u ++ [x] := ⟨l.dropLast, l.getLast (by intro e; rw [e] at h; simp at h), (List.dropLast_concat_getLast _).symm⟩
theorem first_of {l : List Car} (h : 0 < l.length) : ∃ x v, l = x :: v := by
  cases l with
  | nil => simp at h
  | cons x v => exact ⟨x, v, rfl⟩
theorem before_nil_left (m : List Car) : Before [] m := fun x hx => by simp at hx
theorem before_nil_right (l : List Car) : Before l [] := fun x _ y hy => by simp at hy
theorem weak_nil : Weak [] := List.Pairwise.nil
theorem weak_one (x : Car) : Weak [x] := List.pairwise_singleton _ _
/-- Where the search begins and ends. -/
def lo0 (a m b : Nat) : Nat := if m > (a + b) / 2 then (a + b) / 2 + m - b else a
def hi0 (a m b : Nat) : Nat := if m > (a + b) / 2 then (a + b) / 2 else m
theorem lo0_hi0 {a m b : Nat} (h1 : a < m) (h2 : m < b) : a ≤ lo0 a m b ∧ lo0 a m b ≤ hi0 a m b ∧ hi0 a m b ≤ m ∧ hi0 a m b ≤ (a + b) / 2 ∧ m ≤ (a + b) / 2 + m - hi0 a m b ∧ (a + b) / 2 + m - lo0 a m b ≤ b ∧ b ≤ (a + b) / 2 + m ∨ m ≤ (a + b) / 2 ∧ lo0 a m b = a ∧ hi0 a m b = m := by
  unfold lo0 hi0
  by_cases h : m > (a + b) / 2
  · rw [if_pos h, if_pos h]; omega
  · rw [if_neg h, if_neg h]; omega
/-- The parts at the place that the search has found. -/
theorem sym_split {p x y s l : List Car} {a m b st : Nat} (hl : l = p ++ (x ++ (y ++ s))) (ha : p.length = a) (hm : a + x.length = m) (hb : m + y.length = b) (hx : 0 < x.length) (hy : 0 < y.length) (wx : Weak x) (wy : Weak y)
    (h1 : lo0 a m b ≤ st) (h2 : st ≤ hi0 a m b) (f1 : lo0 a m b < st → ¬ carLt (l.getD ((a + b) / 2 + m - 1 - (st - 1)) c0) (l.getD (st - 1) c0))
    (f2 : st < hi0 a m b → carLt (l.getD ((a + b) / 2 + m - 1 - st) c0) (l.getD st c0)) :
    ∃ A B C D, x = A ++ B ∧ y = C ++ D ∧ A.length = st - a ∧ C.length = (a + b) / 2 + m - st - m ∧ Before A D ∧ Before C B ∧ a ≤ st ∧ st ≤ m ∧ st ≤ (a + b) / 2 ∧ m ≤ (a + b) / 2 + m - st ∧ (a + b) / 2 + m - st ≤ b ∧ (a + b) / 2 ≤ (a + b) / 2 + m - st := by
  have bounds : a ≤ st ∧ st ≤ m ∧ st ≤ (a + b) / 2 ∧ m ≤ (a + b) / 2 + m - st ∧ (a + b) / 2 + m - st ≤ b := by
    unfold lo0 at h1
    unfold hi0 at h2
    by_cases h : m > (a + b) / 2
    · rw [if_pos h] at h1 h2; omega
    · rw [if_neg h] at h1 h2; omega
  obtain ⟨b1, b2, b3, b4, b5⟩ := bounds
  obtain ⟨A, B, eX, hA⟩ := part_two (l := x) (k := st - a) (by omega)
  obtain ⟨C, D, eY, hC⟩ := part_two (l := y) (k := (a + b) / 2 + m - st - m) (by omega)
  refine ⟨A, B, C, D, eX, eY, hA, hC, ?_, ?_, b1, b2, b3, b4, b5, by omega⟩
  · -- A before D
    by_cases hA0 : 0 < A.length
    · by_cases hD0 : 0 < D.length
      · obtain ⟨A', u, rfl⟩ := last_of hA0
        obtain ⟨v, D', rfl⟩ := first_of hD0
        subst eX eY
        have wA : Weak (A' ++ [u]) := (weak_two.1 wx).1
        have wD : Weak (v :: D') := (weak_two.1 wy).2.1
        have lens : (A' ++ [u]).length = A'.length + 1 := by simp
        have leny : (C ++ v :: D').length = C.length + (D'.length + 1) := by simp
        have hlt : lo0 a m b < st := by
          unfold lo0 at h1 ⊢
          by_cases h : m > (a + b) / 2
          · rw [if_pos h] at h1 ⊢; omega
          · rw [if_neg h] at h1 ⊢; omega
        have g1 : l.getD ((a + b) / 2 + m - 1 - (st - 1)) c0 = v := by
          rw [hl, show p ++ ((A' ++ [u]) ++ B ++ ((C ++ v :: D') ++ s)) = (p ++ ((A' ++ [u]) ++ B ++ C)) ++ v :: (D' ++ s) by simp]
          apply getD_at
          simp only [List.length_append, List.length_cons, List.length_nil] at hm hA hC lens ⊢
          omega
        have g2 : l.getD (st - 1) c0 = u := by
          rw [hl, show p ++ ((A' ++ [u]) ++ B ++ ((C ++ v :: D') ++ s)) = (p ++ A') ++ u :: (B ++ ((C ++ v :: D') ++ s)) by simp]
          apply getD_at
          simp only [List.length_append, List.length_cons, List.length_nil] at hA ⊢
          omega
        have := f1 hlt
        rw [g1, g2] at this
        exact before_ends wA wD this
      · obtain rfl : D = [] := List.length_eq_zero_iff.1 (by omega)
        exact before_nil_right _
    · obtain rfl : A = [] := List.length_eq_zero_iff.1 (by omega)
      exact before_nil_left _
  · -- C before B
    by_cases hC0 : 0 < C.length
    · by_cases hB0 : 0 < B.length
      · obtain ⟨C', u, rfl⟩ := last_of hC0
        obtain ⟨v, B', rfl⟩ := first_of hB0
        subst eX eY
        have wC : Weak (C' ++ [u]) := (weak_two.1 wy).1
        have wB : Weak (v :: B') := (weak_two.1 wx).2.1
        have lenx : (A ++ v :: B').length = A.length + (B'.length + 1) := by simp
        have lenC : (C' ++ [u]).length = C'.length + 1 := by simp
        have hlt : st < hi0 a m b := by
          unfold hi0 at h2 ⊢
          by_cases h : m > (a + b) / 2
          · rw [if_pos h] at h2 ⊢; omega
          · rw [if_neg h] at h2 ⊢; omega
        have g1 : l.getD ((a + b) / 2 + m - 1 - st) c0 = u := by
          rw [hl, show p ++ ((A ++ v :: B') ++ ((C' ++ [u]) ++ D ++ s)) = (p ++ (A ++ v :: B') ++ C') ++ u :: (D ++ s) by simp]
          apply getD_at
          simp only [List.length_append, List.length_cons, List.length_nil] at hm hA hC ⊢
          omega
        have g2 : l.getD st c0 = v := by
          rw [hl, show p ++ ((A ++ v :: B') ++ ((C' ++ [u]) ++ D ++ s)) = (p ++ A) ++ v :: (B' ++ ((C' ++ [u]) ++ D ++ s)) by simp]
          apply getD_at
          simp only [List.length_append] at hA ⊢
          omega
        have := f2 hlt
        rw [g1, g2] at this
        exact before_ends wC wB (carLt_asym this)
      · obtain rfl : B = [] := List.length_eq_zero_iff.1 (by omega)
        exact before_nil_right _
    · obtain rfl : C = [] := List.length_eq_zero_iff.1 (by omega)
      exact before_nil_left _
end Go.Proofs.Ytamehlafmfmgmaa
namespace Go.Proofs.Ytamehlafmfmgmaa
open Go.RowKit

theorem flat_cars : ∀ (n : Nat) (xs : List Int), xs.length = n * 4 → flat (cars n xs) = xs
  | 0, xs, h => by
    obtain rfl : xs = [] := List.length_eq_zero_iff.1 (by omega)
    rfl
  | n + 1, xs, h => by
    match xs, h with
    | [], h => simp at h
    | [_], h => simp only [List.length_cons, List.length_nil] at h; omega
    | [_, _], h => simp only [List.length_cons, List.length_nil] at h; omega
    | [_, _, _], h => simp only [List.length_cons, List.length_nil] at h; omega
    | a :: b :: c :: d :: t, h =>
      have ih := flat_cars n t (by simp only [List.length_cons] at h; omega)
      have e : cars (n + 1) (a :: b :: c :: d :: t) = (a, b, c, d) :: cars n t := by
        unfold cars
        rw [List.range_succ_eq_map, List.map_cons, List.map_map]
        congr 1
        apply List.map_congr_left
        intro k _
        show carAt (a :: b :: c :: d :: t) (k + 1) = carAt t k
        simp only [carAt, cP, cL, cF, cT, show (k + 1) * 4 = k * 4 + 1 + 1 + 1 + 1 by omega, List.getD_cons_succ, show k * 4 + 1 + 1 + 1 + 1 + 1 = (k * 4 + 1) + 1 + 1 + 1 + 1 by omega, show k * 4 + 1 + 1 + 1 + 1 + 2 = (k * 4 + 2) + 1 + 1 + 1 + 1 by omega, show k * 4 + 1 + 1 + 1 + 1 + 3 = (k * 4 + 3) + 1 + 1 + 1 + 1 by omega]
      rw [e, flat_cons, ih]
theorem cars_length (n : Nat) (xs : List Int) : (cars n xs).length = n := by simp [cars]
/-- Whether a carry may be split so. -/
def spQ (n : Nat) (xs : List Int) (i t p : Int) : Bool := gcB n xs && (inB i 0 ((n : Int) - 1) && (inB p 1 12 && (inB t (cF xs i.toNat + 1) (cT xs i.toNat - 1) && !(cP xs i.toNat == p))))
def spX (xs : List Int) (k : Nat) (t p : Int) : List Int := (xs ++ [p, cL xs k, t, cT xs k]).set (k * 4 + 3) t
def spB (n : Nat) (xs : List Int) (i t p : Int) : Bool := spQ n xs i t p && csB (n + 1) (spX xs i.toNat t p)
def spL (n : Nat) (xs : List Int) (i t p : Int) : List Int := if spB n xs i t p = true then csTo (spX xs i.toNat t p) (n + 1) else []
def spN (n : Nat) (xs : List Int) (i t p : Int) : Nat := if spB n xs i t p = true then n + 1 else 0
theorem spN_le (n : Nat) (xs : List Int) (i t p : Int) : spN n xs i t p ≤ n + 1 := by unfold spN; split <;> omega
section
variable {n : Nat} {xs : List Int} {i t p : Int}
theorem sp_no (h : spB n xs i t p = false) : spB n xs i t p = false ∧ spL n xs i t p = [] ∧ spN n xs i t p = 0 := by
  have h2 : ¬ spB n xs i t p = true := by rw [h]; simp
  exact ⟨h, by rw [spL, if_neg h2], by rw [spN, if_neg h2]⟩
theorem sp_no1 (h : gcB n xs = false) : spB n xs i t p = false := by simp [spB, spQ, h]
theorem sp_no2 (h : inB i 0 ((n : Int) - 1) = false) : spB n xs i t p = false := by simp [spB, spQ, h]
theorem sp_no3 (h : inB p 1 12 = false) : spB n xs i t p = false := by simp [spB, spQ, h]
theorem sp_no4 {k : Nat} (h : inB t (cF xs k + 1) (cT xs k - 1) = false) : spB n xs (k : Int) t p = false := by simp [spB, spQ, h]
theorem sp_no5 {k : Nat} (h : (cP xs k == p) = true) : spB n xs (k : Int) t p = false := by
  have : (cP xs (k : Int).toNat == p) = true := h
  simp only [spB, spQ, this, Bool.not_true, Bool.and_false, Bool.false_and]
theorem sp_yes {k : Nat} (h1 : gcB n xs = true) (h2 : inB (k : Int) 0 ((n : Int) - 1) = true) (h3 : inB p 1 12 = true) (h4 : inB t (cF xs k + 1) (cT xs k - 1) = true) (h5 : (cP xs k == p) = false) :
    spB n xs (k : Int) t p = csB (n + 1) (spX xs k t p) ∧ spL n xs (k : Int) t p = csL (n + 1) (spX xs k t p) ∧ spN n xs (k : Int) t p = csN (n + 1) (spX xs k t p) := by
  have e : spB n xs (k : Int) t p = csB (n + 1) (spX xs k t p) := by
    simp only [spB, spQ, Int.toNat_natCast, h1, h2, h3, h4, h5, Bool.not_false, Bool.true_and]
  exact ⟨e, by rw [spL, e, csL, Int.toNat_natCast], by rw [spN, e, csN]⟩
theorem spX_length {k : Nat} (hl : xs.length = n * 4) : (spX xs k t p).length = (n + 1) * 4 := by
  simp only [spX, List.length_set, List.length_append, hl, List.length_cons, List.length_nil]; omega
theorem spX_flat {k : Nat} (hl : xs.length = n * 4) (hk : k < n) : spX xs k t p = flat (((cars n xs).set k (cP xs k, cL xs k, cF xs k, t)) ++ [(p, cL xs k, t, cT xs k)]) := by
  have hfl := flat_cars n xs hl
  rw [flat_append]
  have e1 : flat [(p, cL xs k, t, cT xs k)] = [p, cL xs k, t, cT xs k] := rfl
  rw [e1, spX, List.set_append_left _ _ (by omega)]
  congr 1
  rw [← flat_set (cars n xs) k (cP xs k, cL xs k, cF xs k, t), hfl]
  have same : ∀ (j : Nat) (ys : List Int), j < ys.length → ys.set j (ys.getD j 0) = ys := fun j ys hj => by
    rw [show ys.getD j 0 = ys[j] by simp [List.getD, hj]]; exact List.set_getElem_self _
  have a0 := same (k * 4) xs (by omega)
  have a1 := same (k * 4 + 1) xs (by omega)
  have a2 := same (k * 4 + 2) xs (by omega)
  show xs.set (k * 4 + 3) t = (((xs.set (k * 4) (cP xs k)).set (k * 4 + 1) (cL xs k)).set (k * 4 + 2) (cF xs k)).set (k * 4 + 3) t
  unfold cP cL cF
  rw [a0, a1, a2]
theorem spX_ok {k : Nat} (hl : xs.length = n * 4) (hk : k < n) (h1 : gcB n xs = true) (h3 : inB p 1 12 = true) (h4 : inB t (cF xs k + 1) (cT xs k - 1) = true) :
    AllOk (((cars n xs).set k (cP xs k, cL xs k, cF xs k, t)) ++ [(p, cL xs k, t, cT xs k)]) := by
  have g := gc_yes h1
  have hc := g.each k hk
  have hv := caB_yes hc
  have ht := inB_yes h4
  have hp := inB_yes h3
  rw [allOk_app]
  refine ⟨?_, ?_⟩
  · intro c hcm
    rcases List.mem_or_eq_of_mem_set hcm with hcm | rfl
    · unfold cars at hcm
      obtain ⟨j, hj, rfl⟩ := List.mem_map.1 hcm
      exact g.each j (List.mem_range.1 hj)
    · simp only [carOk, caB, Bool.and_eq_true, decide_eq_true_eq]
      exact ⟨⟨⟨⟨inB_mk hv.1.1 hv.1.2, inB_mk hv.2.1.1 hv.2.1.2⟩, hv.2.2.1⟩, by omega⟩, by omega⟩
  · intro c hcm
    rw [List.mem_singleton.1 hcm]
    simp only [carOk, caB, Bool.and_eq_true, decide_eq_true_eq]
    exact ⟨⟨⟨⟨h3, inB_mk hv.2.1.1 hv.2.1.2⟩, by omega⟩, by omega⟩, hv.2.2.2.2⟩
/-- Whatever orders the carries behind a split gives what the reference gives. -/
theorem sp_sorted {k : Nat} {Z : List Car} (hl : xs.length = n * 4) (hk : k < n) (hp : Z.Perm (((cars n xs).set k (cP xs k, cL xs k, cF xs k, t)) ++ [(p, cL xs k, t, cT xs k)])) (hw : Weak Z) :
    gcB (n + 1) (flat Z) = csB (n + 1) (spX xs k t p) ∧ (csB (n + 1) (spX xs k t p) = true → flat Z = csTo (spX xs k t p) (n + 1)) := by
  refine cs_any ?_ hw
  have e : cars (n + 1) (spX xs k t p) = ((cars n xs).set k (cP xs k, cL xs k, cF xs k, t)) ++ [(p, cL xs k, t, cT xs k)] := by
    have hlen : (((cars n xs).set k (cP xs k, cL xs k, cF xs k, t)) ++ [(p, cL xs k, t, cT xs k)]).length = n + 1 := by
      rw [List.length_append, List.length_set, cars_length]; rfl
    apply List.ext_getElem (by rw [cars_length, hlen])
    intro j h1 h2
    have := carAt_flat _ j h2
    rw [← spX_flat hl hk] at this
    rw [← this]
    simp [cars]
  rw [e]
  exact hp
end
end Go.Proofs.Ytamehlafmfmgmaa
