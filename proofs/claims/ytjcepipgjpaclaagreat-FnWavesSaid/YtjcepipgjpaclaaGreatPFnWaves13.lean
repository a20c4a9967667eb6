/- The laws' helpers on slices of spots: toSpotS copies, eqSpotS says true of two slices that hold the same numbers, markSpotS writes k, k+1 and so on, heldSpotS finds them again. Conditions: lengths of at most 2^40, and that the slices can be read (or are owned). -/
import Derived.Test.YtjcepipgjpaclaaGreatPFnWaves01
import Derived.Test.YtjcepipgjpaclaaGreatPFnWaves02
import Derived.Deep.RegionHeld3
namespace Go.Proofs.YtjcepipgjpaclaaGreat
open Go.RowKit

theorem spotInfo : (Tryz.prog.info? 68).map (fun i => (i.zero, i.size, i.bytes)) = some (some (Value.agg #[Value.int .i64 0, Value.int .i64 0]), 2, 16) := by kernel_rfl
theorem madeSpots (m : Nat) : (madeCells (Value.cells (Value.agg #[Value.int .i64 0, Value.int .i64 0])) (m * 2)).toList = ints (List.replicate (m * 2) 0) := by
  show (madeCells #[Value.int .i64 0, Value.int .i64 0] (m * 2)).toList = _
  apply List.ext_getElem?
  intro j
  by_cases hj : j < m * 2
  · rcases Nat.mod_two_eq_zero_or_one j with h | h <;> simp [madeCells, hj, ints, h]
  · simp [madeCells, hj, ints]

/-- 'append(out, Spot{x, y})' to an owned slice of spots. -/
theorem app_spot {w : World} {ops : Array Oper} {rest : List Oper} {o : Oper} {a : Act} {Q : Exit → Act → World → Prop} (hgd : o.guard = none) (s u : Operand)
    (ho : o.op = .call { callee := .builtin .append, args := #[s, u], argTypes := #[24, 24] })
    (base : Nat) (v : Value) (n : Nat) (xs : List Int) (hs : a.eval s = v) (hown : w.ownsRow base 68 2 v n (ints xs)) (g : Nat) (x y : Int)
    (hx : a.eval u = .slice (some ⟨g, 0, none⟩) 1 1) (c0 : w.cell? ⟨g, 0, none⟩ = some (.int .i64 x)) (c1 : w.cell? ⟨g, 1, none⟩ = some (.int .i64 y)) (hn : n ≤ 1099511627776) (hbase : base ≤ w.heap.size)
    (h : ∀ v' w', w'.ownsRow base 68 2 v' (n + 1) (ints (xs ++ [x, y])) → w.grownBy w' v.ownBlock → wpList Tryz.prog ops Q rest (a.put o.dst v') w') : wpList Tryz.prog ops Q (o :: rest) a w := by
  obtain ⟨i0, hi, hz0, hz1, hz2⟩ := info_parts spotInfo
  refine wpList_append_own _ hgd s u 24 ho base 68 i0 (Value.agg #[Value.int .i64 0, Value.int .i64 0]) 2 16 Tryz.underlying24 hi hz0 hz1 hz2 rfl (by decide) v n (ints xs) hs hown ⟨g, 0, none⟩ 1 1 [.int .i64 x, .int .i64 y] hx rfl ?_ ?_ ?_ ?_ hbase ?_
  · intro j u hj
    match j, hj with
    | 0, hj => simp at hj; subst hj; exact c0
    | 1, hj => simp at hj; subst hj; exact c1
  · intro u hu; simp at hu; rcases hu with rfl | rfl <;> rfl
  · unfold maxLen; omega
  · omega
  · intro v' w' h1 h2 _
    exact h v' w' (by rw [ints_append]; exact h1) h2

end Go.Proofs.YtjcepipgjpaclaaGreat
