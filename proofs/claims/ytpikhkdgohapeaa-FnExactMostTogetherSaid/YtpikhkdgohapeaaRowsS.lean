/- The laws' helpers on slices of slices of whole numbers: eqIntSS says true of two that hold the same rows, markIntSS writes k, k + 1 and so on, heldIntSS finds them again. Conditions: at most 1000 rows of at most 1000 numbers each, that the call owns. -/
import Derived.Test.YtpikhkdgohapeaaRowsMem
import Derived.Deep.RegionHeld3
import Derived.Test.YtpikhkdgohapeaaTransFn
namespace Go.Proofs.Ytpikhkdgohapeaa
open Go.RowKit

/-- How many numbers the first j rows have. -/
def offs (rs : List (List Int)) : Nat → Nat
  | 0 => 0
  | j + 1 => offs rs j + (rs.getD j []).length
def markRs (rs : List (List Int)) (k : Int) : List (List Int) := (List.range rs.length).map fun j => marks (rs.getD j []).length (k + (offs rs j : Int))
/-- The first j rows marked. -/
def mkdRs (rs : List (List Int)) (k : Int) (j : Nat) : List (List Int) := (markRs rs k).take j ++ rs.drop j
theorem small_get {rs : List (List Int)} (h : smallRows rs) (j : Nat) : (rs.getD j []).length ≤ 1000 := by
  rw [List.getD_eq_getElem?_getD]
  by_cases hj : j < rs.length
  · rw [List.getElem?_eq_getElem hj]; exact h.2 _ (List.getElem_mem hj)
  · rw [List.getElem?_eq_none (by omega)]; simp
theorem offs_le {rs : List (List Int)} (h : smallRows rs) : ∀ j, offs rs j ≤ j * 1000
  | 0 => by simp [offs]
  | j + 1 => by have := offs_le h j; have := small_get h j; simp only [offs]; omega
theorem markRs_length (rs : List (List Int)) (k : Int) : (markRs rs k).length = rs.length := by simp [markRs]
theorem markRs_get (rs : List (List Int)) (k : Int) (j : Nat) (h : j < rs.length) : (markRs rs k)[j]? = some (marks (rs.getD j []).length (k + (offs rs j : Int))) := by
  simp [markRs, h]
theorem mkd_zero (rs : List (List Int)) (k : Int) : mkdRs rs k 0 = rs := by simp [mkdRs]
theorem mkd_all (rs : List (List Int)) (k : Int) : mkdRs rs k rs.length = markRs rs k := by
  have := markRs_length rs k
  rw [mkdRs, List.drop_length, List.append_nil, List.take_of_length_le (by omega)]
theorem mkd_get (rs : List (List Int)) (k : Int) (j i : Nat) (hi : i < rs.length) : (mkdRs rs k j)[i]? = if i < j then (markRs rs k)[i]? else rs[i]? := by
  simp only [mkdRs, List.getElem?_append, List.length_take, markRs_length, List.getElem?_take, List.getElem?_drop]
  by_cases h : i < j
  · rw [if_pos (by omega), if_pos h, if_pos h]
  · rw [if_neg (by omega), if_neg h]
    congr 1
    omega
theorem mkd_length (rs : List (List Int)) (k : Int) (j : Nat) : (mkdRs rs k j).length = rs.length := by
  simp only [mkdRs, List.length_append, List.length_take, markRs_length, List.length_drop]; omega
theorem mark_lens (rs : List (List Int)) (k : Int) (j i : Nat) (r : List Int) (h : (mkdRs rs k j)[i]? = some r) : r.length = (rs.getD i []).length := by
  have hi : i < rs.length := by
    have := (List.getElem?_eq_some_iff.1 h).1
    rwa [mkd_length] at this
  rw [mkd_get rs k j i hi] at h
  split at h
  · rw [markRs_get rs k i hi] at h
    injection h with h
    rw [← h, marks_length]
  · rw [List.getD_eq_getElem?_getD, h]; rfl
theorem rowVs_same {gs : List Nat} {rs ss : List (List Int)} (h : rs.length = ss.length) (hl : ∀ j, (rs.getD j []).length = (ss.getD j []).length) : rowVs gs rs = rowVs gs ss := by
  apply List.ext_getElem?
  intro j
  simp only [rowVs, List.getElem?_zipWith]
  cases hg : gs[j]? with
  | none => simp
  | some g =>
    by_cases hj : j < rs.length
    · have := hl j
      rw [List.getD_eq_getElem?_getD, List.getD_eq_getElem?_getD, List.getElem?_eq_getElem hj, List.getElem?_eq_getElem (by omega)] at this
      rw [List.getElem?_eq_getElem hj, List.getElem?_eq_getElem (by omega)]
      simp only [Option.getD_some] at this
      simp [rowV, this]
    · rw [List.getElem?_eq_none (by omega), List.getElem?_eq_none (by omega)]
/-- A row's block written anew with as many numbers. -/
theorem Rows.marked {w w' : World} {lo n : Nat} {v : Value} {gs : List Nat} {rs : List (List Int)} {k : Int} {j g : Nat} {r : List Int} (h : Rows w lo v n gs (mkdRs rs k j)) (hn : rs.length = n) (hj : j < n)
    (hg : gs[j]? = some g) (hr : r.length = (rs.getD j []).length) (ho : w'.ownsRow lo 3 1 (rowV g r) r.length (ints (marks r.length (k + (offs rs j : Int))))) (hgr : w.grownBy w' (some g)) : Rows w' lo v n gs (mkdRs rs k (j + 1)) := by
  have hlen : ∀ i, ((mkdRs rs k j).getD i []).length = ((mkdRs rs k (j + 1)).getD i []).length := by
    intro i
    rw [List.getD_eq_getElem?_getD, List.getD_eq_getElem?_getD]
    by_cases hi : i < rs.length
    · have a1 := List.getElem?_eq_getElem (show i < (mkdRs rs k j).length by rw [mkd_length]; exact hi)
      have a2 := List.getElem?_eq_getElem (show i < (mkdRs rs k (j + 1)).length by rw [mkd_length]; exact hi)
      rw [a1, a2]
      exact (mark_lens rs k j i _ a1).trans (mark_lens rs k (j + 1) i _ a2).symm
    · rw [List.getElem?_eq_none (by rw [mkd_length]; omega), List.getElem?_eq_none (by rw [mkd_length]; omega)]
  have hb : Blk w' g 3 (ints (marks r.length (k + (offs rs j : Int)))).toArray := blk_of_own ho (marks_length _ _)
  have hrj : j < (mkdRs rs k j).length := by rw [mkd_length]; omega
  have hgj := (h.row j g _ hg (List.getElem?_eq_getElem hrj))
  refine ⟨h.lg, by rw [mkd_length]; exact hn, ?_, h.nod, fun i g' r' hg' hr' => ?_⟩
  · rw [← rowVs_same (by rw [mkd_length, mkd_length]) hlen]
    refine h.own.kept hgr ?_
    have := own_blk_ne h.own hgj.2 (by decide)
    exact .inr this
  · have hi : i < rs.length := by
      have := (List.getElem?_eq_some_iff.1 hr').1
      rwa [mkd_length] at this
    rw [mkd_get rs k (j + 1) i hi] at hr'
    by_cases hij : i = j
    · subst hij
      rw [if_pos (by omega), markRs_get rs k i hi, ← hr] at hr'
      rw [hg] at hg'
      injection hg' with hg'
      injection hr' with hr'
      subst hg' hr'
      exact ⟨hgj.1, hb⟩
    · have hne : g' ≠ g := by
        intro e
        subst e
        have l1 := (List.getElem?_eq_some_iff.1 hg)
        have l2 := (List.getElem?_eq_some_iff.1 hg')
        exact hij ((List.getElem_inj h.nod).1 (l2.2.trans l1.2.symm))
      have : (mkdRs rs k j)[i]? = some r' := by
        rw [mkd_get rs k j i hi, ← hr']
        by_cases h1 : i < j
        · rw [if_pos h1, if_pos (by omega)]
        · rw [if_neg h1, if_neg (by omega)]
      have := h.row i g' r' hg' this
      exact ⟨this.1, this.2.grown hgr (fun e => hne (Option.some.inj e))⟩

end Go.Proofs.Ytpikhkdgohapeaa
