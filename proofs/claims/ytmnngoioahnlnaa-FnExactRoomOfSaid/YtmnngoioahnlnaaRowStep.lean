/- An append of a row to a slice of rows as a step of a region that draws its order; rows kept behind an append elsewhere. Without conditions. -/
import Derived.Test.YtmnngoioahnlnaaRowsMem
import Derived.Deep.RegionHeldLaw
import Derived.Deep.AppendLies
import Derived.Maps.AppendAt
namespace Go.Proofs.Ytmnngoioahnlnaa
open Go.RowKit

theorem Rows.grown {w w' : World} {lo n : Nat} {v : Value} {gs : List Nat} {rs : List (List Int)} {row : Option Nat} (h : Rows w lo v n gs rs) (hg : w.grownBy w' row) (hd : ∀ k, v.ownBlock = some k ∨ k ∈ gs → some k ≠ row) : Rows w' lo v n gs rs :=
  ⟨h.lg, h.lr, h.own.kept hg (by
    cases hv : v.ownBlock with
    | none => exact .inl rfl
    | some k => exact .inr (hd k (.inl hv))), h.nod, fun j g r h1 h2 => ⟨(h.row j g r h1 h2).1, (h.row j g r h1 h2).2.grown hg (hd g (.inr (List.mem_of_getElem? h1)))⟩⟩
theorem Rows.drew {w : World} {lo n : Nat} {v : Value} {gs : List Nat} {rs : List (List Int)} (h : Rows w lo v n gs rs) : Rows w.drew lo v n gs rs := ⟨h.lg, h.lr, h.own, h.nod, h.row⟩
theorem rows_app {w w' : World} {lo n g : Nat} {v v' : Value} {gs : List Nat} {rs : List (List Int)} {r : List Int} (h : Rows w lo v n gs rs) (hg : Blk w g 3 (ints r).toArray) (hlo : lo ≤ g) (hnew : g ∉ gs)
    (h1 : w'.ownsRow lo 34 1 v' (n + 1) (rowVs gs rs ++ [rowV g r])) (h2 : w.grownBy w' v.ownBlock) : Rows w' lo v' (n + 1) (gs ++ [g]) (rs ++ [r]) := by
  refine ⟨by simp [h.lg], by simp [h.lr], by rw [rowVs_app (by rw [h.lg, h.lr])]; exact h1, ?_, fun j g' r' hg' hr' => ?_⟩
  · exact List.nodup_append.2 ⟨h.nod, by simp, by intro x hx y hy; simp at hy; subst hy; intro e; subst e; exact hnew hx⟩
  · have hk : ∀ {k : Nat} {cs : Array Value}, Blk w k 3 cs → Blk w' k 3 cs := fun hb => hb.grown h2 (fun e => own_blk_ne h.own hb (by decide) e.symm)
    by_cases hj : j < n
    · rw [List.getElem?_append_left (by rw [h.lg]; exact hj)] at hg'
      rw [List.getElem?_append_left (by rw [h.lr]; exact hj)] at hr'
      have := h.row j g' r' hg' hr'
      exact ⟨this.1, hk this.2⟩
    · rw [List.getElem?_append_right (by rw [h.lg]; omega)] at hg'
      rw [List.getElem?_append_right (by rw [h.lr]; omega)] at hr'
      have e0 : j - gs.length = 0 := by
        rcases Nat.eq_zero_or_pos (j - gs.length) with h0 | h0
        · exact h0
        · rw [List.getElem?_eq_none (by simp; omega)] at hg'; cases hg'
      have e1 : j - rs.length = 0 := by rw [h.lr, ← h.lg]; exact e0
      rw [e0] at hg'
      rw [e1] at hr'
      simp at hg' hr'
      subst hg' hr'
      exact ⟨hlo, hk hg⟩
end Go.Proofs.Ytmnngoioahnlnaa
