/- One number of a row is written. Without conditions. -/
import Derived.Test.YtamehlafmfmgmaaDoorRowsMem
namespace Go.Proofs.YtamehlafmfmgmaaDoor
open Go.RowKit
theorem only_at (w : World) (c i : Nat) (u : Value) : Only c (c + 1) w (w.setCell ⟨c, i, none⟩ u) :=
  ⟨rfl, rfl, rfl, by simp, fun k _ ho => Below.heap_setCell w _ u k (by show k ≠ c; omega)⟩
theorem Rows.put {w : World} {lo n j g i : Nat} {v : Value} {gs : List Nat} {rs : List (List Int)} {r : List Int} {x : Int} (h : Rows w lo v n gs rs) (hg : gs[j]? = some g) (hr : rs[j]? = some r) (hm : r.length ≤ maxLen) :
    Rows (w.setCell ⟨g, i, none⟩ (.int .i64 x)) lo v n gs (rs.set j (r.set i x)) := by
  have hrow := h.row j g r hg hr
  have only := only_at w g i (.int .i64 x)
  refine ⟨h.lg, by rw [List.length_set]; exact h.lr, ?_, h.nod, fun j' g' r' hg' hr' => ?_⟩
  · have e : rowVs gs (rs.set j (r.set i x)) = rowVs gs rs := by
      apply List.ext_getElem?
      intro a
      by_cases ha : a < gs.length
      · have ha2 : a < rs.length := by rw [h.lr, ← h.lg]; exact ha
        rw [rowVs_get (List.getElem?_eq_getElem ha) (List.getElem?_eq_getElem ha2)]
        by_cases e : a = j
        · subst e
          rw [rowVs_get (r := r.set i x) (List.getElem?_eq_getElem ha) (by rw [List.getElem?_set]; simp [ha2])]
          rw [List.getElem?_eq_getElem ha2] at hr
          cases hr
          simp [rowV]
        · rw [rowVs_get (r := rs[a]) (List.getElem?_eq_getElem ha) (by rw [List.getElem?_set, if_neg (Ne.symm e)]; exact List.getElem?_eq_getElem ha2)]
      · rw [List.getElem?_eq_none (by unfold rowVs; simp; omega), List.getElem?_eq_none (by unfold rowVs; simp; omega)]
    rw [e]
    refine own_kept h.own only (fun k hk => ?_)
    have : k ≠ g := fun e => own_blk_ne h.own hrow.2 (by decide) (by rw [hk, e])
    omega
  · by_cases e : j' = j
    · subst e
      rw [hg] at hg'
      cases hg'
      have hj : j' < rs.length := (List.getElem?_eq_some_iff.1 hr).1
      rw [List.getElem?_set, if_pos rfl, if_pos hj] at hr'
      cases hr'
      refine ⟨hrow.1, ?_⟩
      have o := own_of_blk hrow.2 hrow.1 hm
      have s := (o.stored i (.int .i64 x)).1
      rw [ints_set] at s
      exact blk_of_own (r := r) s (by simp)
    · rw [List.getElem?_set, if_neg (Ne.symm e)] at hr'
      have hrow' := h.row j' g' r' hg' hr'
      refine ⟨hrow'.1, hrow'.2.only only ?_⟩
      have : g' ≠ g := fun e2 => by
        subst e2
        have h1 := (List.getElem?_eq_some_iff.1 hg).1
        exact e ((List.getElem?_inj (j := j) (List.getElem?_eq_some_iff.1 hg').1 h.nod).1 (by rw [hg, hg']))
      omega
end Go.Proofs.YtamehlafmfmgmaaDoor
