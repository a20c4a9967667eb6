/- Memory for a slice of slices of whole numbers that a call owns: the outer slice, and each row in a block of its own; 'only the blocks from lo on and below hi have changed'. Without conditions. -/
import Derived.Test.YtpikhkdgohapeaaIntApp
namespace Go.Proofs.Ytpikhkdgohapeaa
open Go.RowKit

/-- Only blocks from lo on and below hi have changed. -/
structure Only (lo hi : Nat) (w w' : World) : Prop where
  os : w'.os = w.os
  tape : w'.tape = w.tape
  output : w'.output = w.output
  size : w.heap.size ≤ w'.heap.size
  block : ∀ k, k < w.heap.size → (k < lo ∨ hi ≤ k) → w'.heap[k]? = w.heap[k]?
section
variable {w w' w2 : World} {lo hi lo2 hi2 B : Nat}
theorem Only.refl (lo hi : Nat) (w : World) : Only lo hi w w := ⟨rfl, rfl, rfl, Nat.le_refl _, fun _ _ _ => rfl⟩
theorem Only.trans (h : Only lo hi w w') (k : Only lo hi w' w2) : Only lo hi w w2 :=
  ⟨k.os.trans h.os, k.tape.trans h.tape, k.output.trans h.output, Nat.le_trans h.size k.size, fun i hi ho => (k.block i (Nat.lt_of_lt_of_le hi h.size) ho).trans (h.block i hi ho)⟩
theorem Only.below (h : Only lo hi w w') (hB : B ≤ lo) (hBw : B ≤ w.heap.size) : Below B w w' :=
  ⟨h.os, h.tape, h.output, h.size, fun k hk => h.block k (by omega) (.inl (by omega))⟩
theorem Only.of_grown {row : Option Nat} (hg : w.grownBy w' row) (hr : ∀ k, row = some k → lo ≤ k ∧ k < hi) : Only lo hi w w' :=
  ⟨hg.os, hg.tape, hg.output, hg.size, fun k hk ho => hg.block k hk (fun e => by have := hr k e.symm; omega)⟩
theorem Only.of_below (h : Below w.heap.size w w') : Only lo hi w w' := ⟨h.os, h.tape, h.output, h.size, fun k hk _ => h.block k hk⟩
theorem Only.more (h : Only lo hi w w') (h1 : lo2 ≤ lo) (h2 : hi ≤ hi2) : Only lo2 hi2 w w' := ⟨h.os, h.tape, h.output, h.size, fun k hk ho => h.block k hk (by omega)⟩
theorem own_kept {base sz n : Nat} {e : TypeId} {v : Value} {xs : List Value} (h : w.ownsRow base e sz v n xs) (h2 : Only lo2 hi2 w w') (hd : ∀ k, v.ownBlock = some k → k < lo2 ∨ hi2 ≤ k) : w'.ownsRow base e sz v n xs := by
  refine ⟨h.1, ?_⟩
  rcases h.2 with hn | ⟨g, cap, cur, rfl, hb, hgg, rest⟩
  · exact .inl hn
  · refine .inr ⟨g, cap, cur, rfl, hb, ?_, rest⟩
    rw [h2.block g (Array.getElem?_eq_some_iff.1 hgg).1 (hd g rfl)]
    exact hgg
theorem Own.only {sz n : Nat} {e : TypeId} {v : Value} {xs : List Int} (h : Own w lo hi e sz v n xs) (h2 : Only lo2 hi2 w w') (hd : hi ≤ lo2 ∨ hi2 ≤ lo) : Own w' lo hi e sz v n xs := by
  refine ⟨own_kept h.1 h2 fun k hk => ?_, h.2⟩
  have := h.2 k hk
  have := h.1.lt k hk
  omega
theorem Blk.only {g : Nat} {t : TypeId} {cs : Array Value} (h : Blk w g t cs) (h2 : Only lo2 hi2 w w') (hd : g < lo2 ∨ hi2 ≤ g) : Blk w' g t cs := (h2.block g h.lt hd).trans h
theorem Only.alloc {a : World} (h : Only lo hi a w) (o : Obj) : Only lo hi a (w.alloc o) :=
  h.trans ⟨rfl, rfl, rfl, by simp, fun k hk _ => Below.heap_alloc _ _ _ hk⟩
end

/-- A row as a slice's element. -/
def rowV (g : Nat) (r : List Int) : Value := .slice (some ⟨g, 0, none⟩) r.length r.length
def rowVs (gs : List Nat) (rs : List (List Int)) : List Value := List.zipWith rowV gs rs
theorem rowVs_get {gs : List Nat} {rs : List (List Int)} {j g : Nat} {r : List Int} (h1 : gs[j]? = some g) (h2 : rs[j]? = some r) : (rowVs gs rs)[j]? = some (rowV g r) := by
  simp [rowVs, List.getElem?_zipWith, h1, h2]
theorem rowVs_app {gs : List Nat} {rs : List (List Int)} (h : gs.length = rs.length) (g : Nat) (r : List Int) : rowVs (gs ++ [g]) (rs ++ [r]) = rowVs gs rs ++ [rowV g r] := by
  simp [rowVs, List.zipWith_append h]

/-- The slice v is owned; its elements are slices, each of them a block of its own that holds a row of rs. -/
structure Rows (w : World) (lo : Nat) (v : Value) (n : Nat) (gs : List Nat) (rs : List (List Int)) : Prop where
  lg : gs.length = n
  lr : rs.length = n
  own : w.ownsRow lo 36 1 v n (rowVs gs rs)
  nod : gs.Nodup
  row : ∀ (j g : Nat) (r : List Int), gs[j]? = some g → rs[j]? = some r → lo ≤ g ∧ Blk w g 3 (ints r).toArray
section
variable {w w' : World} {lo lo2 hi2 n C : Nat} {v : Value} {gs : List Nat} {rs : List (List Int)}
theorem Rows.nil (w : World) (lo : Nat) : Rows w lo (.slice none 0 0) 0 [] [] :=
  ⟨rfl, rfl, World.ownsRow_nil _ _ _ _, List.nodup_nil, fun j g r h => by simp at h⟩
theorem Rows.empty (w : World) : Rows (w.alloc (.cells #[] 36)) w.heap.size (.slice (some ⟨w.heap.size, 0, none⟩) 0 0) 0 [] [] :=
  ⟨rfl, rfl, own_empty w _ _, List.nodup_nil, fun j g r h => by simp at h⟩
theorem Rows.base (h : Rows w lo v n gs rs) (hl : lo2 ≤ lo) : Rows w lo2 v n gs rs :=
  ⟨h.lg, h.lr, own_base h.own hl, h.nod, fun j g r h1 h2 => ⟨Nat.le_trans hl (h.row j g r h1 h2).1, (h.row j g r h1 h2).2⟩⟩
theorem Rows.below (h : Rows w lo v n gs rs) (hb : Below C w w') (hC : w.heap.size ≤ C) : Rows w' lo v n gs rs :=
  ⟨h.lg, h.lr, own_below h.own hb hC, h.nod, fun j g r h1 h2 => ⟨(h.row j g r h1 h2).1, (h.row j g r h1 h2).2.below hb (Nat.lt_of_lt_of_le (h.row j g r h1 h2).2.lt hC)⟩⟩
theorem Rows.alloc (h : Rows w lo v n gs rs) (o : Obj) : Rows (w.alloc o) lo v n gs rs :=
  h.below ((Below.refl _ _).alloc (Nat.le_refl _) o) (Nat.le_refl _)
theorem Rows.mem (h : Rows w lo v n gs rs) {g : Nat} (hg : g ∈ gs) : lo ≤ g ∧ g < w.heap.size := by
  obtain ⟨j, hj, rfl⟩ := List.getElem_of_mem hg
  have h1 : gs[j]? = some gs[j] := List.getElem?_eq_getElem hj
  have hr : j < rs.length := by rw [h.lr, ← h.lg]; exact hj
  have h2 : rs[j]? = some rs[j] := List.getElem?_eq_getElem hr
  exact ⟨(h.row j _ _ h1 h2).1, (h.row j _ _ h1 h2).2.lt⟩
theorem Rows.kept (h : Rows w lo v n gs rs) (h2 : Only lo2 hi2 w w') (hd : ∀ k, v.ownBlock = some k ∨ k ∈ gs → k < lo2 ∨ hi2 ≤ k) : Rows w' lo v n gs rs :=
  ⟨h.lg, h.lr, own_kept h.own h2 (fun k hk => hd k (.inl hk)), h.nod, fun j g r h1 h3 => ⟨(h.row j g r h1 h3).1, (h.row j g r h1 h3).2.only h2 (hd g (.inr (List.mem_of_getElem? h1)))⟩⟩
/-- Another slice of the same rows' blocks. -/
theorem Rows.at (h : Rows w lo v n gs rs) {j : Nat} (hj : j < n) : ∃ b c g r, v = .slice (some ⟨b, 0, none⟩) n c ∧ w.cell? ⟨b, j, none⟩ = some (rowV g r) ∧ gs[j]? = some g ∧ rs[j]? = some r ∧ r = rs.getD j [] ∧ Blk w g 3 (ints r).toArray ∧ lo ≤ g := by
  have hjg : j < gs.length := by rw [h.lg]; exact hj
  have hjr : j < rs.length := by rw [h.lr]; exact hj
  have h1 : gs[j]? = some gs[j] := List.getElem?_eq_getElem hjg
  have h2 : rs[j]? = some rs[j] := List.getElem?_eq_getElem hjr
  rcases h.own.2 with ⟨_, h0⟩ | ⟨b, cap, cur, rfl, hb, hg, _⟩
  · omega
  · exact ⟨b, cap, gs[j], rs[j], rfl, (h.own.cellAt j (by omega)).trans (rowVs_get h1 h2), h1, h2, by simp [List.getD, h2], (h.row j _ _ h1 h2).2, (h.row j _ _ h1 h2).1⟩
theorem Rows.form (h : Rows w lo v n gs rs) : ∃ A c, v = .slice A n c := by
  rcases h.own.2 with ⟨rfl, rfl⟩ | ⟨b, cap, cur, rfl, _⟩
  · exact ⟨none, 0, rfl⟩
  · exact ⟨_, cap, rfl⟩
end
theorem own_of_blk {w : World} {g lo : Nat} {r : List Int} (h : Blk w g 3 (ints r).toArray) (hl : lo ≤ g) (hm : r.length ≤ maxLen) : w.ownsRow lo 3 1 (rowV g r) r.length (ints r) :=
  ⟨by simp [ints_length], .inr ⟨g, r.length, (ints r).toArray, rfl, hl, h, Nat.le_refl _, hm, by simp [ints_length], by rw [Nat.mul_one]; exact List.take_of_length_le (by simp [ints_length])⟩⟩
theorem blk_of_own {w : World} {g lo : Nat} {r s : List Int} (h : w.ownsRow lo 3 1 (rowV g r) r.length (ints s)) (hl : s.length = r.length) : Blk w g 3 (ints s).toArray := by
  rcases h.2 with ⟨h1, _⟩ | ⟨b, cap, cur, h1, _, hg, hc, _, hs, ht⟩
  · simp [rowV] at h1
  · simp only [rowV, Value.slice.injEq, Option.some.injEq, Addr.mk.injEq] at h1
    obtain ⟨⟨rfl, _⟩, _, rfl⟩ := h1
    have : cur.toList = ints s := by
      rw [← ht, List.take_of_length_le]
      simp; omega
    unfold Blk
    rw [hg, ← this]
theorem rd_of_blk {w : World} {g : Nat} {r : List Int} (h : Blk w g 3 (ints r).toArray) : Rd w w.heap.size 1 (rowV g r) r.length r := by
  refine ⟨(Nat.mul_one _).symm, _, _, rfl, fun _ => ⟨g, 0, rfl, h.lt, fun j hj => ?_⟩⟩
  rw [h.cell, Nat.zero_add]
  simpa using ints_get r j (by omega)

/-- 'append(out, []int{..})' to an owned slice of rows. -/
theorem app_row {w : World} {ops : Array Oper} {rest : List Oper} {o : Oper} {a : Act} {Q : Exit → Act → World → Prop} (hgd : o.guard = none) (s u : Operand)
    (ho : o.op = .call { callee := .builtin .append, args := #[s, u], argTypes := #[94, 94] })
    (lo : Nat) (v : Value) (n : Nat) (gs : List Nat) (rs : List (List Int)) (hs : a.eval s = v) (h : Rows w lo v n gs rs) (b g : Nat) (r : List Int)
    (hx : a.eval u = .slice (some ⟨b, 0, none⟩) 1 1) (c0 : w.cell? ⟨b, 0, none⟩ = some (rowV g r)) (hg : Blk w g 3 (ints r).toArray) (hlo : lo ≤ g) (hnew : g ∉ gs) (hn : n ≤ 1000000) (hbase : lo ≤ w.heap.size)
    (hK : ∀ v' w', Rows w' lo v' (n + 1) (gs ++ [g]) (rs ++ [r]) → w.grownBy w' v.ownBlock → wpList Try.prog ops Q rest (a.put o.dst v') w') : wpList Try.prog ops Q (o :: rest) a w := by
  obtain ⟨i0, hi, hz0, hz1, hz2⟩ := info_parts (show (Try.prog.info? 36).map (fun i => (i.zero, i.size, i.bytes)) = some (some (.slice none 0 0), 1, 24) by kernel_rfl)
  refine wpList_append_own _ hgd s u 94 ho lo 36 i0 (.slice none 0 0) 1 24 Try.underlying94 hi hz0 hz1 hz2 rfl (by decide) v n (rowVs gs rs) hs h.own ⟨b, 0, none⟩ 1 1 [rowV g r] hx rfl ?_ ?_ ?_ ?_ hbase ?_
  · intro j u hj
    match j, hj with
    | 0, hj => simp at hj; subst hj; exact c0
  · intro u hu; simp at hu; subst hu; rfl
  · unfold maxLen; omega
  · omega
  · intro v' w' h1 h2 _
    refine hK v' w' ⟨by simp [h.lg], by simp [h.lr], by rw [rowVs_app (by rw [h.lg, h.lr])]; exact h1, ?_, fun j g' r' hg' hr' => ?_⟩ h2
    · exact List.nodup_append.2 ⟨h.nod, by simp, by intro x hx y hy; simp at hy; subst hy; intro e; subst e; exact hnew hx⟩
    · have hk : ∀ {k : Nat} {cs : Array Value}, Blk w k 3 cs → Blk w' k 3 cs := fun hb => hb.grown h2 (fun e => own_blk_ne h.own hb (by decide) e.symm)
      by_cases hj : j < n
      · rw [List.getElem?_append_left (by rw [h.lg]; exact hj)] at hg'
        rw [List.getElem?_append_left (by rw [h.lr]; exact hj)] at hr'
        have := h.row j g' r' hg' hr'
        exact ⟨this.1, hk this.2⟩
      · rw [List.getElem?_append_right (by rw [h.lg]; omega)] at hg'
        rw [List.getElem?_append_right (by rw [h.lr]; omega)] at hr'
        have e0 : j - gs.length = 0 := by
          rcases Nat.eq_zero_or_pos (j - gs.length) with h0 | h0
          · exact h0
          · rw [List.getElem?_eq_none (by simp; omega)] at hg'; cases hg'
        have e1 : j - rs.length = 0 := by rw [h.lr, ← h.lg]; exact e0
        rw [e0] at hg'
        rw [e1] at hr'
        simp at hg' hr'
        subst hg' hr'
        exact ⟨hlo, hk hg⟩

/-- Rows, all of them in blocks below hi. -/
def RowsIn (w : World) (lo hi : Nat) (v : Value) (n : Nat) (gs : List Nat) (rs : List (List Int)) : Prop := Rows w lo v n gs rs ∧ ∀ k, v.ownBlock = some k ∨ k ∈ gs → k < hi
section
variable {w w' : World} {lo hi lo2 hi2 n C : Nat} {v : Value} {gs : List Nat} {rs : List (List Int)}
theorem RowsIn.of (h : Rows w lo v n gs rs) : RowsIn w lo w.heap.size v n gs rs := ⟨h, fun k hk => by
  rcases hk with hk | hk
  · exact (h.own.lt k hk).2
  · exact (h.mem hk).2⟩
theorem RowsIn.below (h : RowsIn w lo hi v n gs rs) (hb : Below C w w') (hC : w.heap.size ≤ C) : RowsIn w' lo hi v n gs rs := ⟨h.1.below hb hC, h.2⟩
theorem RowsIn.only (h : RowsIn w lo hi v n gs rs) (h2 : Only lo2 hi2 w w') (hd : hi ≤ lo2 ∨ hi2 ≤ lo) : RowsIn w' lo hi v n gs rs :=
  ⟨h.1.kept h2 (fun k hk => by
    have := h.2 k hk
    have : lo ≤ k := by
      rcases hk with hk | hk
      · exact (h.1.own.lt k hk).1
      · exact (h.1.mem hk).1
    omega), h.2⟩
end
end Go.Proofs.Ytpikhkdgohapeaa
