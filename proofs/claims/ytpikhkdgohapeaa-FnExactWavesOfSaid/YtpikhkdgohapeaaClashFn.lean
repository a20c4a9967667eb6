/- For each performer the earlier ones in conflict: plain laws. Without conditions. -/
import Derived.Test.YtpikhkdgohapeaaSetsFn
import Derived.Test.YtpikhkdgohapeaaWavesFn
namespace Go.Proofs.Ytpikhkdgohapeaa
def clTo (rs : List (List Int)) (n : Nat) : Nat → List (List Nat)
  | 0 => List.replicate n []
  | j + 1 => (clTo rs n j).set (r1 (rs.getD j [])) ((clTo rs n j).getD (r1 (rs.getD j [])) [] ++ [r0 (rs.getD j [])])
theorem clTo_length (rs : List (List Int)) (n : Nat) : ∀ j, (clTo rs n j).length = n
  | 0 => by simp [clTo]
  | j + 1 => by simp [clTo, clTo_length rs n j]
theorem rows_put {l : List (List Nat)} {i : Nat} {x : List Nat} (hi : i < l.length) (j : Nat) : (l.set i x).getD j [] = if j = i then x else l.getD j [] := by
  simp only [List.getD_eq_getElem?_getD, List.getElem?_set]
  by_cases h : i = j
  · subst h; simp [hi]
  · simp [h, Ne.symm h]
theorem clTo_len {rs : List (List Int)} {n m : Nat} (h : ∀ j, j < m → r1 (rs.getD j []) < n) : ∀ {j}, j ≤ m → ∀ i, ((clTo rs n j).getD i []).length ≤ j
  | 0, _, i => by
    simp only [clTo, List.getD_eq_getElem?_getD, List.getElem?_replicate]
    split <;> simp
  | j + 1, hj, i => by
    have ih := clTo_len h (j := j) (by omega)
    rw [clTo, rows_put (by rw [clTo_length]; exact h j (by omega))]
    split
    · have := ih (r1 (rs.getD j []))
      rw [List.length_append]; simp only [List.length_singleton]; omega
    · have := ih i; omega
theorem clTo_mem {rs : List (List Int)} {n m : Nat} (h : ∀ j, j < m → r1 (rs.getD j []) < n) (i x : Nat) : ∀ {j}, j ≤ m → (x ∈ (clTo rs n j).getD i [] ↔ ∃ a, a < j ∧ r1 (rs.getD a []) = i ∧ r0 (rs.getD a []) = x)
  | 0, _ => by
    constructor
    · intro hx
      simp only [clTo, List.getD_eq_getElem?_getD, List.getElem?_replicate] at hx
      split at hx <;> simp at hx
    · rintro ⟨a, ha, _⟩; omega
  | j + 1, hj => by
    have ih := clTo_mem h i x (j := j) (by omega)
    rw [clTo, rows_put (by rw [clTo_length]; exact h j (by omega))]
    by_cases e : i = r1 (rs.getD j [])
    · rw [if_pos e, List.mem_append, ← e, ih]
      constructor
      · rintro (⟨a, ha, h1⟩ | h1)
        · exact ⟨a, by omega, h1⟩
        · exact ⟨j, by omega, e.symm, (List.mem_singleton.1 h1).symm⟩
      · rintro ⟨a, ha, h1, h2⟩
        by_cases ea : a = j
        · subst ea; right; exact List.mem_singleton.2 h2.symm
        · exact .inl ⟨a, by omega, h1, h2⟩
    · rw [if_neg e, ih]
      constructor
      · rintro ⟨a, ha, h1⟩; exact ⟨a, by omega, h1⟩
      · rintro ⟨a, ha, h1, h2⟩
        by_cases ea : a = j
        · subst ea; exact absurd h1.symm e
        · exact ⟨a, by omega, h1, h2⟩
def clAll (p : Nat → Nat → Bool) (n : Nat) : List (List Nat) := clTo (prTo p n n) n (prTo p n n).length
theorem clAll_len {p : Nat → Nat → Bool} {n : Nat} (hn : n ≤ 12) (i : Nat) : ((clAll p n).getD i []).length ≤ 144 := by
  have := clTo_len (rs := prTo p n n) (n := n) (m := (prTo p n n).length) (fun j hj => (pair_at hj).2.1) (Nat.le_refl _) i
  have := (pr_small (p := p) hn).1
  unfold clAll; omega
/-- Those in conflict with a performer. -/
theorem clAll_mem {p : Nat → Nat → Bool} {n i : Nat} (hi : i < n) (x : Nat) : x ∈ (clAll p n).getD i [] ↔ x < i ∧ qS (smAll p n) i x = true := by
  have hb := clTo_mem (rs := prTo p n n) (n := n) (m := (prTo p n n).length) (fun j hj => (pair_at hj).2.1) i x (Nat.le_refl _)
  refine hb.trans ⟨?_, ?_⟩
  · rintro ⟨a, ha, h1, h2⟩
    have := pair_at ha
    rw [h1, h2] at this
    refine ⟨this.1, ?_⟩
    rw [smAll_bit this.1 hi]; exact this.2.2
  · rintro ⟨h1, h2⟩
    rw [smAll_bit h1 hi] at h2
    obtain ⟨j, hj, h3, h4⟩ := pair_has h1 hi h2
    exact ⟨j, hj, h4, h3⟩
/-- One of the first j of a list has a wave. -/
def chTo (cl : List Nat) (h : List Nat) (w : Nat) : Nat → Bool
  | 0 => false
  | j + 1 => chTo cl h w j || (h.getD (cl.getD j 0) 0 == w)
theorem chTo_iff {cl h : List Nat} {w : Nat} : ∀ {j}, j ≤ cl.length → (chTo cl h w j = true ↔ ∃ x, x ∈ cl.take j ∧ h.getD x 0 = w)
  | 0, _ => by simp [chTo]
  | j + 1, hj => by
    rw [chTo, Bool.or_eq_true, chTo_iff (by omega), beq_iff_eq]
    have e : cl.take (j + 1) = cl.take j ++ [cl.getD j 0] := by
      rw [List.take_add_one, List.getElem?_eq_getElem (by omega), List.getD_eq_getElem?_getD, List.getElem?_eq_getElem (by omega)]; rfl
    rw [e]
    constructor
    · rintro (⟨x, hx, h1⟩ | h1)
      · exact ⟨x, by simp [hx], h1⟩
      · exact ⟨cl.getD j 0, by simp, h1⟩
    · rintro ⟨x, hx, h1⟩
      rw [List.mem_append] at hx
      rcases hx with hx | hx
      · exact .inl ⟨x, hx, h1⟩
      · simp only [List.mem_singleton] at hx; subst hx; exact .inr h1
theorem ch_free {q : Nat → Nat → Bool} {cl h : List Nat} {w : Nat} (hc : ∀ x, x ∈ cl ↔ x < h.length ∧ q h.length x = true) : wFree q h w = !(chTo cl h w cl.length) := by
  cases hch : chTo cl h w cl.length with
  | true =>
    obtain ⟨x, hx, h1⟩ := (chTo_iff (Nat.le_refl _)).1 hch
    rw [List.take_length] at hx
    have := (hc x).1 hx
    show _ = false
    rw [Bool.eq_false_iff]
    intro hf
    exact wFree_iff.1 hf x this.1 this.2 h1
  | false =>
    show _ = true
    rw [wFree_iff]
    intro j hj hq he
    have : chTo cl h w cl.length = true := (chTo_iff (Nat.le_refl _)).2 ⟨j, by rw [List.take_length]; exact (hc j).2 ⟨hj, hq⟩, he⟩
    rw [hch] at this; cases this
theorem fwS_length {q : Nat → Nat → Bool} {m : Nat} : ∀ {k : Nat} {h r : List Nat}, fwS q m k h = some r → r.length = h.length + k
  | 0, h, r, hr => by simp only [fwS, Option.some.injEq] at hr; subst hr; rfl
  | k + 1, h, r, hr => by
    have key : ∀ v w r, fwTry q m (fwS q m k) h v w = some r → r.length = h.length + (k + 1) := by
      intro v
      induction v with
      | zero => intro w r hr; simp [fwTry] at hr
      | succ v ih =>
        intro w r hr
        rw [fwTry] at hr
        split at hr
        · split at hr
          · rename_i r' h1
            cases hr
            have := fwS_length h1
            simp at this; omega
          · split at hr
            · exact ih _ _ hr
            · cases hr
        · exact ih _ _ hr
    exact key m 0 r hr
end Go.Proofs.Ytpikhkdgohapeaa
