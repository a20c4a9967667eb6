/- An append of a row to a slice of rows as a step of a region that draws its order; rows kept behind an append elsewhere. Without conditions. -/
import Derived.Test.YtpikhkdgohapeaaRowsMem
import Derived.Deep.RegionHeldLaw
import Derived.Deep.AppendLies
import Derived.Maps.AppendAt
namespace Go.Proofs.Ytpikhkdgohapeaa
open Go.RowKit

theorem Rows.grown {w w' : World} {lo n : Nat} {v : Value} {gs : List Nat} {rs : List (List Int)} {row : Option Nat} (h : Rows w lo v n gs rs) (hg : w.grownBy w' row) (hd : ∀ k, v.ownBlock = some k ∨ k ∈ gs → some k ≠ row) : Rows w' lo v n gs rs :=
  ⟨h.lg, h.lr, h.own.kept hg (by
    cases hv : v.ownBlock with
    | none => exact .inl rfl
    | some k => exact .inr (hd k (.inl hv))), h.nod, fun j g r h1 h2 => ⟨(h.row j g r h1 h2).1, (h.row j g r h1 h2).2.grown hg (hd g (.inr (List.mem_of_getElem? h1)))⟩⟩
theorem Rows.drew {w : World} {lo n : Nat} {v : Value} {gs : List Nat} {rs : List (List Int)} (h : Rows w lo v n gs rs) : Rows w.drew lo v n gs rs := ⟨h.lg, h.lr, h.own, h.nod, h.row⟩
theorem rows_app {w w' : World} {lo n g : Nat} {v v' : Value} {gs : List Nat} {rs : List (List Int)} {r : List Int} (h : Rows w lo v n gs rs) (hg : Blk w g 3 (ints r).toArray) (hlo : lo ≤ g) (hnew : g ∉ gs)
    (h1 : w'.ownsRow lo 36 1 v' (n + 1) (rowVs gs rs ++ [rowV g r])) (h2 : w.grownBy w' v.ownBlock) : Rows w' lo v' (n + 1) (gs ++ [g]) (rs ++ [r]) := by
  refine ⟨by simp [h.lg], by simp [h.lr], by rw [rowVs_app (by rw [h.lg, h.lr])]; exact h1, ?_, fun j g' r' hg' hr' => ?_⟩
  · exact List.nodup_append.2 ⟨h.nod, by simp, by intro x hx y hy; simp at hy; subst hy; intro e; subst e; exact hnew hx⟩
  · have hk : ∀ {k : Nat} {cs : Array Value}, Blk w k 3 cs → Blk w' k 3 cs := fun hb => hb.grown h2 (fun e => own_blk_ne h.own hb (by decide) e.symm)
    by_cases hj : j < n
    · rw [List.getElem?_append_left (by rw [h.lg]; exact hj)] at hg'
      rw [List.getElem?_append_left (by rw [h.lr]; exact hj)] at hr'
      have := h.row j g' r' hg' hr'
      exact ⟨this.1, hk this.2⟩
    · rw [List.getElem?_append_right (by rw [h.lg]; omega)] at hg'
      rw [List.getElem?_append_right (by rw [h.lr]; omega)] at hr'
      have e0 : j - gs.length = 0 := by
        rcases Nat.eq_zero_or_pos (j - gs.length) with h0 | h0
        · exact h0
        · rw [List.getElem?_eq_none (by simp; omega)] at hg'; cases hg'
      have e1 : j - rs.length = 0 := by rw [h.lr, ← h.lg]; exact e0
      rw [e0] at hg'
      rw [e1] at hr'
      simp at hg' hr'
      subst hg' hr'
      exact ⟨hlo, hk hg⟩
set_option maxRecDepth 100000 in
theorem step_row {w : World} {ops : Array Oper} {o : Oper} {a : Act} {K : Act → World → Prop} {Q : Exit → Act → World → Prop} {E : Prop} (hgd : o.guard = none) (s u : Operand)
    (ho : o.op = .call { callee := .builtin .append, args := #[s, u], argTypes := #[94, 94] })
    (lo : Nat) (v : Value) (n : Nat) (gs : List Nat) (rs : List (List Int)) (hs : a.eval s = v) (h : Rows w lo v n gs rs) (b g : Nat) (r : List Int)
    (hx : a.eval u = .slice (some ⟨b, 0, none⟩) 1 1) (c0 : Blk w b 36 #[rowV g r]) (hg : Blk w g 3 (ints r).toArray) (hlo : lo ≤ g) (hnew : g ∉ gs) (hn : n ≤ 1000000) (hbase : lo ≤ w.heap.size)
    (hK : ∀ b' cap w', Rows w' lo (.slice (some ⟨b', 0, none⟩) (n + 1) cap) (n + 1) (gs ++ [g]) (rs ++ [r]) → w.grownBy w' v.ownBlock → (v.ownBlock = some b' ∨ b' = w.heap.size) → K (a.put o.dst (.slice (some ⟨b', 0, none⟩) (n + 1) cap)) w') :
    if Region.wanted o (yielded ops a.tmps) = true then Oper.wp Try.prog o a w K Q else E := by
  obtain ⟨i0, hi, hz0, hz1, hz2⟩ := info_parts (show (Try.prog.info? 36).map (fun i => (i.zero, i.size, i.bytes)) = some (some (.slice none 0 0), 1, 24) by kernel_rfl)
  refine step_append_lies _ hgd s u 94 ho lo 36 i0 (.slice none 0 0) 1 24 Try.underlying94 hi hz0 hz1 hz2 rfl (by decide) v n (rowVs gs rs) hs h.own ⟨b, 0, none⟩ 1 1 [rowV g r] hx rfl (World.news_of_block c0) ?_ (by decide) ?_ ?_ hbase _ rfl ?_
  · intro u hu; simp at hu; subst hu; rfl
  · unfold maxLen; omega
  · omega
  · intro b' cap w' h1 h2 h3 _
    exact hK b' cap w' (rows_app h hg hlo hnew h1 h2) h2 h3
/-- As app_row; and the new slice lies in the old block or in a new one. -/
theorem app_row_at {w : World} {ops : Array Oper} {rest : List Oper} {o : Oper} {a : Act} {Q : Exit → Act → World → Prop} (hgd : o.guard = none) (s u : Operand)
    (ho : o.op = .call { callee := .builtin .append, args := #[s, u], argTypes := #[94, 94] })
    (lo : Nat) (v : Value) (n : Nat) (gs : List Nat) (rs : List (List Int)) (hs : a.eval s = v) (h : Rows w lo v n gs rs) (b g : Nat) (r : List Int)
    (hx : a.eval u = .slice (some ⟨b, 0, none⟩) 1 1) (c0 : w.cell? ⟨b, 0, none⟩ = some (rowV g r)) (hg : Blk w g 3 (ints r).toArray) (hlo : lo ≤ g) (hnew : g ∉ gs) (hn : n ≤ 1000000) (hbase : lo ≤ w.heap.size)
    (hK : ∀ v' w', Rows w' lo v' (n + 1) (gs ++ [g]) (rs ++ [r]) → w.grownBy w' v.ownBlock → (v'.ownBlock = v.ownBlock ∨ v'.ownBlock = some w.heap.size) → wpList Try.prog ops Q rest (a.put o.dst v') w') : wpList Try.prog ops Q (o :: rest) a w := by
  obtain ⟨i0, hi, hz0, hz1, hz2⟩ := info_parts (show (Try.prog.info? 36).map (fun i => (i.zero, i.size, i.bytes)) = some (some (.slice none 0 0), 1, 24) by kernel_rfl)
  refine wpList_append_own_at _ hgd s u 94 ho lo 36 i0 (.slice none 0 0) 1 24 Try.underlying94 hi hz0 hz1 hz2 rfl (by decide) v n (rowVs gs rs) hs h.own ⟨b, 0, none⟩ 1 1 [rowV g r] hx rfl ?_ ?_ ?_ ?_ hbase ?_
  · intro j u hj
    match j, hj with
    | 0, hj => simp at hj; subst hj; exact c0
  · intro u hu; simp at hu; subst hu; rfl
  · unfold maxLen; omega
  · omega
  · intro v' w' h1 h2 _ h4
    exact hK v' w' (rows_app h hg hlo hnew h1 h2) h2 h4
end Go.Proofs.Ytpikhkdgohapeaa
