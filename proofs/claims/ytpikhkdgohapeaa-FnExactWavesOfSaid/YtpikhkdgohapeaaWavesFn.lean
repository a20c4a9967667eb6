/- Waves: the program's search and the reference's, which stops behind the first wave that nobody has yet, find the same; the least number of waves. Plain laws, without conditions. -/
import Derived.Test.YtpikhkdgohapeaaMem
namespace Go.Proofs.Ytpikhkdgohapeaa
/-- Wave w is free for the next performer, if the first ones have the waves h. -/
def wFree (q : Nat → Nat → Bool) (h : List Nat) (w : Nat) : Bool := (List.range h.length).all fun j => !(h.getD j 0 == w && q h.length j)
/-- The first waves below m that go on from h by k performers (the program's search: waves from w on, v of them left). -/
def fwF (q : Nat → Nat → Bool) (m : Nat) : Nat → List Nat → Option (List Nat)
  | 0, h => some h
  | k + 1, h => (List.range m).findSome? fun w => if wFree q h w = true then fwF q m k (h ++ [w]) else none
/-- The reference's search: it stops behind the first wave that nobody has yet. -/
def fwTry (q : Nat → Nat → Bool) (m : Nat) (next : List Nat → Option (List Nat)) (h : List Nat) : Nat → Nat → Option (List Nat)
  | 0, _ => none
  | v + 1, w => if wFree q h w = true then
      (match next (h ++ [w]) with
       | some r => some r
       | none => if w ∈ h then fwTry q m next h v (w + 1) else none)
    else fwTry q m next h v (w + 1)
def fwS (q : Nat → Nat → Bool) (m : Nat) : Nat → List Nat → Option (List Nat)
  | 0, h => some h
  | k + 1, h => fwTry q m (fwS q m k) h m 0
/-- Waves are good: below m, and those in conflict have others. -/
def wGood (q : Nat → Nat → Bool) (m : Nat) (l : List Nat) : Prop := ∀ i, i < l.length → l.getD i 0 < m ∧ ∀ j, j < i → q i j = true → l.getD j 0 ≠ l.getD i 0
theorem wFree_iff {q : Nat → Nat → Bool} {h : List Nat} {w : Nat} : wFree q h w = true ↔ ∀ j, j < h.length → q h.length j = true → h.getD j 0 ≠ w := by
  simp only [wFree, List.all_eq_true, List.mem_range, Bool.not_eq_true', Bool.and_eq_false_iff, beq_eq_false_iff_ne, ne_eq]
  constructor
  · intro a j hj hq
    rcases a j hj with e | e
    · exact e
    · rw [hq] at e; cases e
  · intro a j hj
    cases hq : q h.length j with
    | false => exact .inr rfl
    | true => exact .inl (a j hj hq)
theorem getD_app (h : List Nat) (w i : Nat) : (h ++ [w]).getD i 0 = if i < h.length then h.getD i 0 else if i = h.length then w else 0 := by
  simp only [List.getD_eq_getElem?_getD, List.getElem?_append]
  split
  · rfl
  · rename_i hi
    split
    · rename_i he; subst he; simp
    · rw [List.getElem?_eq_none (by simp; omega)]; rfl
theorem wGood_snoc {q : Nat → Nat → Bool} {m : Nat} {h : List Nat} {w : Nat} : wGood q m (h ++ [w]) ↔ wGood q m h ∧ w < m ∧ wFree q h w = true := by
  rw [wFree_iff]
  constructor
  · intro g
    refine ⟨fun i hi => ?_, ?_, fun j hj hq => ?_⟩
    · have := g i (by simp; omega)
      rw [getD_app, if_pos hi] at this
      refine ⟨this.1, fun j hj hq => ?_⟩
      have := this.2 j hj hq
      rwa [getD_app, if_pos (by omega)] at this
    · have := (g h.length (by simp)).1
      rwa [getD_app, if_neg (by omega), if_pos rfl] at this
    · have := (g h.length (by simp)).2 j hj hq
      rw [getD_app, getD_app, if_pos hj, if_neg (by omega), if_pos rfl] at this
      exact this
  · rintro ⟨g, hw, hf⟩ i hi
    simp only [List.length_append, List.length_cons, List.length_nil] at hi
    by_cases hil : i < h.length
    · have := g i hil
      rw [getD_app, if_pos hil]
      refine ⟨this.1, fun j hj hq => ?_⟩
      rw [getD_app, if_pos (by omega)]
      exact this.2 j hj hq
    · obtain rfl : i = h.length := by omega
      rw [getD_app, if_neg hil, if_pos rfl]
      refine ⟨hw, fun j hj hq => ?_⟩
      rw [getD_app, if_pos hj]
      exact hf j hj hq
theorem wGood_pre {q : Nat → Nat → Bool} {m : Nat} {h : List Nat} : ∀ {c : List Nat}, wGood q m (h ++ c) → wGood q m h := by
  intro c g i hi
  have e : ∀ j, j < h.length → (h ++ c).getD j 0 = h.getD j 0 := fun j hj => by simp only [List.getD_eq_getElem?_getD, List.getElem?_append_left hj]
  have := g i (by simp; omega)
  rw [e i hi] at this
  refine ⟨this.1, fun j hj hq => ?_⟩
  have := this.2 j hj hq
  rwa [e j (by omega)] at this
/-- The program's search finds waves if there are some. -/
theorem fwF_some {q : Nat → Nat → Bool} {m : Nat} : ∀ {k : Nat} {h r : List Nat}, wGood q m h → fwF q m k h = some r → wGood q m r ∧ r.length = h.length + k
  | 0, h, r, hg, he => by simp only [fwF, Option.some.injEq] at he; subst he; exact ⟨hg, rfl⟩
  | k + 1, h, r, hg, he => by
    rw [fwF, List.findSome?_eq_some_iff] at he
    obtain ⟨l1, w, l2, hl, hw, _⟩ := he
    split at hw
    · rename_i hf
      have hwm : w < m := by
        have : w ∈ List.range m := by rw [hl]; simp
        exact List.mem_range.1 this
      have := fwF_some (wGood_snoc.2 ⟨hg, hwm, hf⟩) hw
      refine ⟨this.1, ?_⟩
      have h2 := this.2
      simp at h2; omega
    · cases hw
theorem fwF_none {q : Nat → Nat → Bool} {m : Nat} : ∀ {k : Nat} {h : List Nat}, fwF q m k h = none → ∀ c : List Nat, c.length = k → ¬ wGood q m (h ++ c)
  | 0, h, he, c, hc, hg => by simp [fwF] at he
  | k + 1, h, he, c, hc, hg => by
    match c, hc with
    | w :: c, hc =>
      rw [fwF, List.findSome?_eq_none_iff] at he
      have e : h ++ w :: c = (h ++ [w]) ++ c := by simp
      rw [e] at hg
      have g1 := wGood_snoc.1 (wGood_pre hg)
      have := he w (List.mem_range.2 g1.2.1)
      rw [if_pos g1.2.2] at this
      exact fwF_none this c (by simpa using hc) hg
/-- Two waves changed for each other. -/
def wSwap (a b x : Nat) : Nat := if x = a then b else if x = b then a else x
theorem wSwap_inj {a b x y : Nat} (h : wSwap a b x = wSwap a b y) : x = y := by
  unfold wSwap at h
  split at h <;> split at h <;> (try split at h) <;> (try split at h) <;> omega
theorem wSwap_lt {a b x m : Nat} (ha : a < m) (hb : b < m) (hx : x < m) : wSwap a b x < m := by unfold wSwap; split <;> (try split) <;> omega
theorem wSwap_id {a b x : Nat} (h1 : x ≠ a) (h2 : x ≠ b) : wSwap a b x = x := by simp [wSwap, h1, h2]
theorem wGood_swap {q : Nat → Nat → Bool} {m a b : Nat} {l : List Nat} (ha : a < m) (hb : b < m) (g : wGood q m l) : wGood q m (l.map (wSwap a b)) := by
  intro i hi
  simp only [List.length_map] at hi
  have e : ∀ j, j < l.length → (l.map (wSwap a b)).getD j 0 = wSwap a b (l.getD j 0) := fun j hj => by
    simp only [List.getD_eq_getElem?_getD, List.getElem?_map, List.getElem?_eq_getElem hj, Option.map_some, Option.getD_some]
  have := g i hi
  rw [e i hi]
  refine ⟨wSwap_lt ha hb this.1, fun j hj hq => ?_⟩
  rw [e j (by omega)]
  intro he
  exact this.2 j hj hq (wSwap_inj he)
/-- If a wave that nobody has does not lead on, no other such wave does. -/
theorem fw_fresh {q : Nat → Nat → Bool} {m k a b : Nat} {h : List Nat} (ha : a < m) (hah : a ∉ h) (hbh : b ∉ h) (hn : fwF q m k (h ++ [a]) = none) (hg : wGood q m h) (hb : b < m) (hfb : wFree q h b = true) : fwF q m k (h ++ [b]) = none := by
  cases he : fwF q m k (h ++ [b]) with
  | none => rfl
  | some r =>
    exfalso
    have hs := fwF_some (wGood_snoc.2 ⟨hg, hb, hfb⟩) he
    -- r goes on from h ++ [b]
    have hpre : ∀ {k : Nat} {h r : List Nat}, fwF q m k h = some r → ∃ c, r = h ++ c ∧ c.length = k := by
      intro k
      induction k with
      | zero => intro h r he; simp only [fwF, Option.some.injEq] at he; exact ⟨[], by simp [he], rfl⟩
      | succ k ih =>
        intro h r he
        rw [fwF, List.findSome?_eq_some_iff] at he
        obtain ⟨l1, w, l2, hl, hw, _⟩ := he
        split at hw
        · obtain ⟨c, hc, hk⟩ := ih hw
          exact ⟨w :: c, by rw [hc]; simp, by simp [hk]⟩
        · cases hw
    obtain ⟨c, hc, hk⟩ := hpre he
    have g2 := wGood_swap (a := a) (b := b) ha hb hs.1
    rw [hc] at g2
    have e1 : (h ++ [b] ++ c).map (wSwap a b) = (h ++ [a]) ++ c.map (wSwap a b) := by
      have : h.map (wSwap a b) = h := by
        conv => rhs; rw [← List.map_id h]
        refine List.map_congr_left fun x hx => ?_
        exact wSwap_id (fun e => hah (e ▸ hx)) (fun e => hbh (e ▸ hx))
      simp only [List.map_append, this, List.map_cons, List.map_nil]
      have : wSwap a b b = a := by unfold wSwap; split <;> simp_all
      rw [this]
    rw [e1] at g2
    exact fwF_none hn _ (by simp [hk]) g2
/-- The waves in h are just those below some number. -/
def wFull (h : List Nat) (u : Nat) : Prop := ∀ w, w ∈ h ↔ w < u
theorem findSome_none_tail {α : Type} {f : Nat → Option α} {m : Nat} : ∀ {v w : Nat}, w + v = m → (List.range' w v).findSome? f = none ∨ ∃ x, x < m ∧ w ≤ x ∧ f x ≠ none := by
  intro v w hm
  by_cases h : ∃ x, x < m ∧ w ≤ x ∧ f x ≠ none
  · exact .inr h
  · left
    rw [List.findSome?_eq_none_iff]
    intro x hx
    rw [List.mem_range'_1] at hx
    cases hf : f x with
    | none => rfl
    | some y => exact absurd ⟨x, by omega, hx.1, by rw [hf]; simp⟩ h
theorem fw_try {q : Nat → Nat → Bool} {m k u : Nat} {h : List Nat} (hg : wGood q m h) (hu : wFull h u) (hnext : ∀ w, w < m → wFree q h w = true → w ≤ u → fwS q m k (h ++ [w]) = fwF q m k (h ++ [w])) :
    ∀ v w, w + v = m → w ≤ u → fwTry q m (fwS q m k) h v w = (List.range' w v).findSome? fun w => if wFree q h w = true then fwF q m k (h ++ [w]) else none
  | 0, w, _, _ => by simp [fwTry]
  | v + 1, w, hm, hw => by
    rw [fwTry, List.range'_succ, List.findSome?_cons]
    cases hf : wFree q h w with
    | false =>
      have hin : w ∈ h := by
        rcases Nat.lt_or_ge w u with h1 | h1
        · exact (hu w).2 h1
        · exfalso
          have hnot : w ∉ h := fun hx => by have := (hu w).1 hx; omega
          have : wFree q h w = true := wFree_iff.2 fun j hj _ he => hnot (by rw [← he, List.getD_eq_getElem?_getD, List.getElem?_eq_getElem hj]; exact List.getElem_mem hj)
          rw [hf] at this; cases this
      have hwu := (hu w).1 hin
      simp only [Bool.false_eq_true, if_false]
      exact fw_try hg hu hnext v (w + 1) (by omega) (by omega)
    | true =>
      simp only [if_true]
      rw [hnext w (by omega) hf hw]
      cases hn : fwF q m k (h ++ [w]) with
      | some r => rfl
      | none =>
        simp only
        by_cases hin : w ∈ h
        · rw [if_pos hin]
          have hwu := (hu w).1 hin
          exact fw_try hg hu hnext v (w + 1) (by omega) (by omega)
        · rw [if_neg hin]
          symm
          rw [List.findSome?_eq_none_iff]
          intro x hx
          rw [List.mem_range'_1] at hx
          have hwu : w = u := by
            rcases Nat.lt_or_ge w u with h1 | h1
            · exact absurd ((hu w).2 h1) hin
            · omega
          have hxn : x ∉ h := fun hx' => by have := (hu x).1 hx'; omega
          split
          · rename_i hfx
            exact fw_fresh (by omega) hin hxn hn hg (by omega) hfx
          · rfl
theorem fw_same {q : Nat → Nat → Bool} {m : Nat} : ∀ k (h : List Nat) (u : Nat), wGood q m h → wFull h u → fwS q m k h = fwF q m k h
  | 0, _, _, _, _ => rfl
  | k + 1, h, u, hg, hu => by
    rw [fwS, fw_try hg hu (fun w hw hf hwu => ?_) m 0 (by omega) (by omega), fwF, List.range_eq_range']
    refine fw_same k _ (if w < u then u else u + 1) (wGood_snoc.2 ⟨hg, hw, hf⟩) fun x => ?_
    rw [List.mem_append, hu x]
    split
    · constructor
      · rintro (h | h)
        · exact h
        · simp at h; omega
      · intro h; exact .inl h
    · constructor
      · rintro (h | h)
        · omega
        · simp at h; omega
      · intro h
        rcases Nat.lt_or_ge x u with h1 | h1
        · exact .inl h1
        · right; simp; omega
/-- m waves are enough, and no less are. -/
structure LeastWaves (q : Nat → Nat → Bool) (n m : Nat) (r : List Nat) : Prop where
  pos : 1 ≤ m
  found : fwF q m n [] = some r
  less : ∀ k, 1 ≤ k → k < m → fwF q k n [] = none
theorem wGood_nil (q : Nat → Nat → Bool) (m : Nat) : wGood q m [] := fun i hi => by simp at hi
/-- As many waves as performers are enough. -/
theorem waves_n (q : Nat → Nat → Bool) (n : Nat) (hn : 1 ≤ n) : fwF q n n [] ≠ none := by
  intro h
  refine fwF_none h (List.range n) (by simp) fun i hi => ?_
  simp only [List.nil_append, List.length_range] at hi
  have e : ∀ j, j < n → (([] : List Nat) ++ List.range n).getD j 0 = j := fun j hj => by simp [List.getD_eq_getElem?_getD, hj]
  rw [e i hi]
  refine ⟨hi, fun j hj _ => ?_⟩
  rw [e j (by omega)]
  omega
theorem lw_le {q : Nat → Nat → Bool} {n m : Nat} {r : List Nat} (hn : 1 ≤ n) (h : LeastWaves q n m r) : m ≤ n := by
  rcases Nat.lt_or_ge n m with h1 | h1
  · exact absurd (h.less n hn h1) (waves_n q n hn)
  · exact h1
theorem lw_unique {q : Nat → Nat → Bool} {n m m' : Nat} {r r' : List Nat} (h : LeastWaves q n m r) (h' : LeastWaves q n m' r') : m = m' ∧ r = r' := by
  have : m = m' := by
    rcases Nat.lt_trichotomy m m' with h1 | h1 | h1
    · have := h'.less m h.pos h1; rw [h.found] at this; cases this
    · exact h1
    · have := h.less m' h'.pos h1; rw [h'.found] at this; cases this
  subst this
  exact ⟨rfl, Option.some.inj (h.found.symm.trans h'.found)⟩
theorem lw_good {q : Nat → Nat → Bool} {n m : Nat} {r : List Nat} (h : LeastWaves q n m r) : wGood q m r ∧ r.length = n := by
  have := fwF_some (wGood_nil q m) h.found
  exact ⟨this.1, by simpa using this.2⟩
/-- The last wave is one of them. -/
theorem lw_last {q : Nat → Nat → Bool} {n m : Nat} {r : List Nat} (hn : 1 ≤ n) (h : LeastWaves q n m r) : ∃ i, i < n ∧ r.getD i 0 + 1 = m := by
  obtain ⟨g, hl⟩ := lw_good h
  by_cases hx : ∃ i, i < n ∧ r.getD i 0 + 1 = m
  · exact hx
  · exfalso
    have hlt : ∀ i, i < n → r.getD i 0 < m - 1 := by
      intro i hi
      have := (g i (by omega)).1
      rcases Nat.lt_or_ge (r.getD i 0) (m - 1) with h1 | h1
      · exact h1
      · exact absurd ⟨i, hi, by omega⟩ hx
    have h0 := hlt 0 hn
    have hm := h.less (m - 1) (by omega) (by have := h.pos; omega)
    exact fwF_none hm r hl (fun i hi => ⟨by rw [List.nil_append] at hi ⊢; exact hlt i (by omega), (g i (by simpa using hi)).2⟩)
/-- The greatest wave of the first k, and one more. -/
def wvMax (r : List Nat) : Nat → Nat
  | 0 => 0
  | k + 1 => max (wvMax r k) (r.getD k 0 + 1)
theorem wvMax_le {r : List Nat} {m : Nat} : ∀ {k : Nat}, (∀ i, i < k → r.getD i 0 < m) → wvMax r k ≤ m
  | 0, _ => by simp [wvMax]
  | k + 1, h => by
    have := wvMax_le (k := k) fun i hi => h i (by omega)
    have := h k (by omega)
    rw [wvMax]; omega
theorem wvMax_ge {r : List Nat} {i : Nat} : ∀ {k : Nat}, i < k → r.getD i 0 + 1 ≤ wvMax r k
  | 0, h => by omega
  | k + 1, h => by
    rw [wvMax]
    rcases Nat.lt_succ_iff_lt_or_eq.1 h with h1 | rfl
    · have := wvMax_ge (r := r) h1; omega
    · omega
theorem wvMax_all {q : Nat → Nat → Bool} {n m : Nat} {r : List Nat} (hn : 1 ≤ n) (h : LeastWaves q n m r) : wvMax r n = m := by
  obtain ⟨i, hi, he⟩ := lw_last hn h
  have h1 := wvMax_ge (r := r) hi
  obtain ⟨g, hl⟩ := lw_good h
  have h2 := wvMax_le (r := r) (m := m) (k := n) fun j hj => (g j (by omega)).1
  omega
theorem lw_exists (q : Nat → Nat → Bool) (n : Nat) (hn : 1 ≤ n) : ∃ m r, LeastWaves q n m r := by
  have main : ∀ k m, m + k = n → 1 ≤ m → (∀ j, 1 ≤ j → j < m → fwF q j n [] = none) → ∃ m r, LeastWaves q n m r := by
    intro k
    induction k with
    | zero =>
      intro m hm h1 hl
      obtain rfl : m = n := by omega
      cases hf : fwF q m m [] with
      | none => exact absurd hf (waves_n q m hn)
      | some r => exact ⟨m, r, h1, hf, hl⟩
    | succ k ih =>
      intro m hm h1 hl
      cases hf : fwF q m n [] with
      | none =>
        refine ih (m + 1) (by omega) (by omega) fun j h2 h3 => ?_
        rcases Nat.lt_succ_iff_lt_or_eq.1 h3 with h | rfl
        · exact hl j h2 h
        · exact hf
      | some r => exact ⟨m, r, h1, hf, hl⟩
  exact main (n - 1) 1 (by omega) (Nat.le_refl _) (fun j h1 h2 => absurd h1 (by omega))
end Go.Proofs.Ytpikhkdgohapeaa
