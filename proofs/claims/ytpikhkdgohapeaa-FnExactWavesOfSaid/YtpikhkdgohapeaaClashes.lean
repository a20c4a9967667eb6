/- A contract of the reference's rows of clashes. Conditions: the transition is good, its slices can be read, and the least distance lies within its bounds. -/
import Derived.Test.YtpikhkdgohapeaaWavesS
import Derived.Test.YtpikhkdgohapeaaTimes
import Derived.Test.YtpikhkdgohapeaaCounts
namespace Go.Proofs.Ytpikhkdgohapeaa
open Go.RowKit

/-- An append of a number to an owned slice as a step of a region that draws its order. -/
theorem step_int {w : World} {ops : Array Oper} {o : Oper} {a : Act} {K : Act → World → Prop} {Q : Exit → Act → World → Prop} {E : Prop} (hgd : o.guard = none) (s u : Operand)
    (ho : o.op = .call { callee := .builtin .append, args := #[s, u], argTypes := #[36, 36] })
    (lo : Nat) (v : Value) (n : Nat) (xs : List Int) (hs : a.eval s = v) (h : w.ownsRow lo 3 1 v n (ints xs)) (g : Nat) (x : Int)
    (hx : a.eval u = .slice (some ⟨g, 0, none⟩) 1 1) (c0 : Blk w g 3 #[.int .i64 x]) (hn : n ≤ 1000000) (hbase : lo ≤ w.heap.size)
    (hK : ∀ b' cap w', w'.ownsRow lo 3 1 (.slice (some ⟨b', 0, none⟩) (n + 1) cap) (n + 1) (ints (xs ++ [x])) → w.grownBy w' v.ownBlock → (v.ownBlock = some b' ∨ b' = w.heap.size) → K (a.put o.dst (.slice (some ⟨b', 0, none⟩) (n + 1) cap)) w') :
    if Region.wanted o (yielded ops a.tmps) = true then Oper.wp Try.prog o a w K Q else E := by
  obtain ⟨i0, hi, hz0, hz1, hz2⟩ := info_parts intInfo
  refine step_append_lies _ hgd s u 36 ho lo 3 i0 (.int .i64 0) 1 8 Try.underlying36 hi hz0 hz1 hz2 rfl (by decide) v n (ints xs) hs h ⟨g, 0, none⟩ 1 1 [.int .i64 x] hx rfl (World.news_of_block c0) ?_ (by decide) ?_ ?_ hbase _ rfl ?_
  · intro u hu; simp at hu; subst hu; rfl
  · unfold maxLen; omega
  · omega
  · intro b' cap w' h1 h2 h3 _
    exact hK b' cap w' (by rw [ints_append]; exact h1) h2 h3
/-- Owned rows that may grow. -/
structure Rag (w : World) (lo hi b n : Nat) (ss : List Value) (cl : List (List Nat)) : Prop where
  ls : ss.length = n
  lb : lo ≤ b ∧ b < hi
  own : w.ownsRow lo 36 1 (.slice (some ⟨b, 0, none⟩) n n) n ss
  row : ∀ j s, ss[j]? = some s → w.ownsRow hi 3 1 s (cl.getD j []).length (ints (nats (cl.getD j [])))
  dis : ∀ (i j : Nat) (s u : Value) (k : Nat), i ≠ j → ss[i]? = some s → ss[j]? = some u → s.ownBlock = some k → u.ownBlock ≠ some k
theorem Rag.below {w w' : World} {lo hi b n : Nat} {ss : List Value} {cl : List (List Nat)} (h : Rag w lo hi b n ss cl) (hb : Below w.heap.size w w') : Rag w' lo hi b n ss cl :=
  ⟨h.ls, h.lb, own_below h.own hb (Nat.le_refl _), fun j s hj => own_below (h.row j s hj) hb (Nat.le_refl _), h.dis⟩
/-- One row has grown. -/
theorem Rag.put {w w1 w2 : World} {lo hi b n q x b' cap : Nat} {ss : List Value} {cl : List (List Nat)} {s : Value} (h : Rag w lo hi b n ss cl) (hq : q < n) (hcl : cl.length = n) (hs : ss[q]? = some s) (hhi : hi ≤ w.heap.size)
    (h1 : w1.ownsRow hi 3 1 (.slice (some ⟨b', 0, none⟩) ((cl.getD q []).length + 1) cap) ((cl.getD q []).length + 1) (ints (nats (cl.getD q []) ++ [(x : Int)]))) (hg : w.grownBy w1 s.ownBlock)
    (hor : s.ownBlock = some b' ∨ b' = w.heap.size) (h2 : w1.setCell ⟨b, q, none⟩ (.slice (some ⟨b', 0, none⟩) ((cl.getD q []).length + 1) cap) = w2) :
    Rag w2 lo hi b n (ss.set q (.slice (some ⟨b', 0, none⟩) ((cl.getD q []).length + 1) cap)) (cl.set q (cl.getD q [] ++ [x])) := by
  subst h2
  have hsk : ∀ k, s.ownBlock = some k → hi ≤ k ∧ k < w.heap.size := fun k hk => (h.row q s hs).lt k hk
  have ho1 : w1.ownsRow lo 36 1 (.slice (some ⟨b, 0, none⟩) n n) n ss := h.own.kept hg (.inr (fun e => by
    have := hsk b (by rw [← e]; rfl)
    have := h.lb; omega))
  have hb1 : b < w1.heap.size := (ho1.lt b rfl).2
  refine ⟨by rw [List.length_set]; exact h.ls, h.lb, (ho1.stored q _).1, fun j u hj => ?_, fun i j u z k hij hu hz hk => ?_⟩
  · have only := only_cell w1 b q (.slice (some ⟨b', 0, none⟩) ((cl.getD q []).length + 1) cap)
    rw [List.getElem?_set] at hj
    rw [rows_put (by omega)]
    by_cases e : q = j
    · subst e
      rw [if_pos rfl, if_pos (by rw [h.ls]; exact hq)] at hj
      cases hj
      rw [if_pos rfl]
      refine own_kept (xs := ints (nats (cl.getD q [] ++ [x]))) ?_ only (fun k hk => by
        have := (h1.lt k hk).1; have := h.lb; omega)
      rw [show (cl.getD q [] ++ [x]).length = (cl.getD q []).length + 1 by simp, show nats (cl.getD q [] ++ [x]) = nats (cl.getD q []) ++ [(x : Int)] by simp [nats]]
      exact h1
    · rw [if_neg e] at hj
      rw [if_neg (Ne.symm e)]
      refine own_kept ((h.row j u hj).kept hg ?_) only (fun k hk => by
        have := ((h.row j u hj).lt k hk).1; have := h.lb; omega)
      cases hub : u.ownBlock with
      | none => exact .inl rfl
      | some k => exact .inr (fun e2 => h.dis j q u s k (Ne.symm e) hj hs hub e2.symm)
  · have nb : (Value.slice (some ⟨b', 0, none⟩) ((cl.getD q []).length + 1) cap).ownBlock = some b' := rfl
    rw [List.getElem?_set] at hu hz
    by_cases e1 : q = i
    · subst e1
      rw [if_pos rfl, if_pos (by rw [h.ls]; exact hq)] at hu
      cases hu
      rw [if_neg hij] at hz
      rw [nb] at hk
      cases hk
      rcases hor with h3 | h3
      · exact h.dis q j s z _ hij hs hz h3
      · intro hc
        have := ((h.row j z hz).lt _ hc).2
        omega
    · rw [if_neg e1] at hu
      by_cases e2 : q = j
      · subst e2
        rw [if_pos rfl, if_pos (by rw [h.ls]; exact hq)] at hz
        cases hz
        rw [nb]
        intro hc
        cases hc
        rcases hor with h3 | h3
        · exact h.dis q i s u _ (Ne.symm hij) hs hu h3 hk
        · have := ((h.row i u hu).lt _ hk).2
          omega
      · rw [if_neg e2] at hz
        exact h.dis i j u z k hij hu hz hk
theorem Rag.read {w : World} {lo hi b n : Nat} {ss : List Value} {cl : List (List Nat)} (h : Rag w lo hi b n ss cl) : RagR w w.heap.size b n cl := by
  refine ⟨(h.own.lt b rfl).2, fun j hj => ?_⟩
  have hj2 : j < ss.length := by rw [h.ls]; exact hj
  refine ⟨ss[j], (h.own.cellAt j (by omega)).trans (List.getElem?_eq_getElem hj2), ?_⟩
  exact Rd.of_own (h.row j _ (List.getElem?_eq_getElem hj2))
theorem madeRows (m : Nat) : (madeCells (Value.slice none 0 0).cells m).toList = List.replicate m (Value.slice none 0 0) := by
  show (madeCells #[Value.slice none 0 0] m).toList = _
  rw [toList_madeCells_one]
theorem Rag.made {w : World} {lo hi b n : Nat} (h : w.ownsRow lo 36 1 (.slice (some ⟨b, 0, none⟩) n n) n (List.replicate n (Value.slice none 0 0))) (hb : lo ≤ b ∧ b < hi) : Rag w lo hi b n (List.replicate n (Value.slice none 0 0)) (List.replicate n []) := by
  refine ⟨by simp, hb, h, fun j s hj => ?_, fun i j s u k _ hs _ hk => ?_⟩
  · rw [List.getElem?_replicate] at hj
    split at hj
    · cases hj
      rw [show (List.replicate n ([] : List Nat)).getD j [] = [] by simp only [List.getD_eq_getElem?_getD, List.getElem?_replicate]; split <;> rfl]
      exact World.ownsRow_nil _ _ _ _
    · cases hj
  · rw [List.getElem?_replicate] at hs
    split at hs
    · cases hs; simp [Value.ownBlock] at hk
    · cases hs
end Go.Proofs.Ytpikhkdgohapeaa
