/- 'append(out, l...)' to an owned slice of whole numbers, of another owned one. Condition: a length of at most 2^40. -/
import Derived.Test.YtpikhkdgohapeaaIntApp
import Derived.Laws.AppendOwnNone
namespace Go.Proofs.Ytpikhkdgohapeaa
open Go.RowKit
theorem app_ints {w : World} {ops : Array Oper} {rest : List Oper} {o : Oper} {a : Act} {Q : Exit → Act → World → Prop} (hgd : o.guard = none) (s u : Operand)
    (ho : o.op = .call { callee := .builtin .append, args := #[s, u], argTypes := #[36, 36] })
    (base : Nat) (v : Value) (n : Nat) (xs : List Int) (hs : a.eval s = v) (hown : w.ownsRow base 3 1 v n (ints xs)) (base2 : Nat) (z : Value) (m : Nat) (ys : List Int)
    (hx : a.eval u = z) (hz : w.ownsRow base2 3 1 z m (ints ys)) (hn : n + m ≤ 1099511627776) (hbase : base ≤ w.heap.size)
    (h : ∀ v' w', w'.ownsRow base 3 1 v' (n + m) (ints (xs ++ ys)) → w.grownBy w' v.ownBlock → wpList Try.prog ops Q rest (a.put o.dst v') w') : wpList Try.prog ops Q (o :: rest) a w := by
  obtain ⟨i0, hi, hz0, hz1, hz2⟩ := info_parts intInfo
  have hl : (ints ys).length = m * 1 := hz.1
  have hcell : ∀ g c, z = .slice (some ⟨g, 0, none⟩) m c → ∀ j u, (ints ys)[j]? = some u → w.cell? ((⟨g, 0, none⟩ : Addr).add j) = some u := by
    intro g c hzz j u hj
    subst hzz
    have hjl : j < m * 1 := by rw [← hl]; exact (List.getElem?_eq_some_iff.1 hj).1
    have := hz.cellAt j hjl
    rw [hj] at this
    rw [← this]
    by_cases h0 : j = 0
    · subst h0; rfl
    · simp [Addr.add, h0]
  rcases hz.2 with ⟨hz9, h0⟩ | ⟨g, cap, cur, rfl, _⟩
  · have hl2 := hz.1
    rw [h0] at hl2
    have hm : m = 0 := by simp at hl2; omega
    have hy : ys = [] := List.length_eq_zero_iff.1 (by have h3 := hz.1; rw [ints_length] at h3; omega)
    subst hm
    subst hy
    refine wpList_append_own_none hgd s u 36 ho base 3 i0 1 Try.underlying36 hi v n (ints xs) hs hown (hx.trans hz9) (h v w (by rw [List.append_nil]; exact hown) ⟨rfl, rfl, rfl, Nat.le_refl _, fun _ _ _ => rfl⟩)
  · refine wpList_append_own _ hgd s u 36 ho base 3 i0 (.int .i64 0) 1 8 Try.underlying36 hi hz0 hz1 hz2 rfl (by decide) v n (ints xs) hs hown ⟨g, 0, none⟩ m cap (ints ys) hx hl (hcell g cap rfl) (ints_one ys) ?_ ?_ hbase ?_
    · unfold maxLen; omega
    · omega
    · intro v' w' h1 h2 _
      exact h v' w' (by rw [ints_append]; exact h1) h2
end Go.Proofs.Ytpikhkdgohapeaa
