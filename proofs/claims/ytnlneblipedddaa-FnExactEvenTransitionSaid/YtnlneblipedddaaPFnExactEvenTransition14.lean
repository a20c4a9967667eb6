/- 'append(out, l[a:b]...)' to an owned slice of spots, of a part of another one that can be read, empty or not: as a step of a region. Condition: lengths of at most a million. -/
import Derived.Test.YtnlneblipedddaaPFnExactEvenTransition11
import Derived.Laws.OwnMore
import Derived.Deep.AppendLies
namespace Go.Proofs.Ytnlneblipedddaa
open Go.RowKit

/-- The slice src has m elements of sz cells, which hold ys: nil, or at an address. -/
def Part (w : World) (sz : Nat) (src : Value) (m : Nat) (ys : List Int) : Prop :=
  ys.length = m * sz ∧ (src = .slice none 0 0 ∧ m = 0 ∨ ∃ ad c, src = .slice (some ad) m c ∧ ∀ j, j < m * sz → w.cell? (ad.add j) = some (.int .i64 (ys.getD j 0)))
theorem wp_part {w : World} {o : Oper} {a : Act} {K : Act → World → Prop} {Q : Exit → Act → World → Prop} (s u : Operand)
    (ho : o.op = .call { callee := .builtin .append, args := #[s, u], argTypes := #[24, 24] })
    (lo : Nat) (v : Value) (n : Nat) (xs : List Int) (hs : a.eval s = v) (h : w.ownsRow lo 75 2 v n (ints xs)) (src : Value) (m : Nat) (ys : List Int)
    (hx : a.eval u = src) (hp : Part w 2 src m ys) (hn : n + m ≤ 1000000) (hbase : lo ≤ w.heap.size)
    (hK : ∀ v' w', w'.ownsRow lo 75 2 v' (n + m) (ints (xs ++ ys)) → w.grownBy w' v.ownBlock → K (a.put o.dst v') w') : Oper.wp Try.prog o a w K Q := by
  obtain ⟨i0, hi, hz0, hz1, hz2⟩ := info_parts spotInfo
  obtain ⟨hl, ⟨rfl, rfl⟩ | ⟨ad, c, rfl, hc⟩⟩ := hp
  · obtain rfl : ys = [] := List.length_eq_zero_iff.1 (by omega)
    have hrun := run_append_owned_none (P := Try.prog) (w := w) lo 24 o.type 75 i0 2 Try.underlying24 hi v n (ints xs) h
    have := hK v w (by rw [List.append_nil]; exact h) ⟨rfl, rfl, rfl, Nat.le_refl _, fun _ _ _ => rfl⟩
    unfold Oper.wp
    simp [execOp, ho, resolve, invoke, builtin, hs, hx, hrun, Result.andThen]
    exact this
  · refine wp_append_own w s u 24 ho lo 75 i0 (Value.agg #[Value.int .i64 0, Value.int .i64 0]) 2 16 Try.underlying24 hi hz0 hz1 hz2 rfl (by decide) v n (ints xs) hs h ad m c (ints ys) hx (by rw [ints_length, hl]) (fun j x hj => ?_) (ints_one ys) (by unfold maxLen; omega) (by omega) hbase (fun v' w' h1 h2 _ => hK v' w' (by rw [ints_append]; exact h1) h2)
    have hj2 : j < m * 2 := by have := (List.getElem?_eq_some_iff.1 hj).1; rw [ints_length, hl] at this; exact this
    rw [ints_get ys j (by omega)] at hj
    rw [← Option.some.inj hj]
    exact hc j hj2
theorem step_part {w : World} {ops : Array Oper} {o : Oper} {a : Act} {K : Act → World → Prop} {Q : Exit → Act → World → Prop} {E : Prop} (hgd : o.guard = none) (s u : Operand)
    (ho : o.op = .call { callee := .builtin .append, args := #[s, u], argTypes := #[24, 24] })
    (lo : Nat) (v : Value) (n : Nat) (xs : List Int) (hs : a.eval s = v) (h : w.ownsRow lo 75 2 v n (ints xs)) (src : Value) (m : Nat) (ys : List Int)
    (hx : a.eval u = src) (hp : Part w 2 src m ys) (hn : n + m ≤ 1000000) (hbase : lo ≤ w.heap.size)
    (hK : ∀ v' w', w'.ownsRow lo 75 2 v' (n + m) (ints (xs ++ ys)) → w.grownBy w' v.ownBlock → K (a.put o.dst v') w') : if Region.wanted o (yielded ops a.tmps) = true then Oper.wp Try.prog o a w K Q else E := by
  have hw : Region.wanted o (yielded ops a.tmps) = true := by simp [Region.wanted, hgd]
  rw [if_pos hw]
  exact wp_part s u ho lo v n xs hs h src m ys hx hp hn hbase hK
theorem app_part {w : World} {ops : Array Oper} {rest : List Oper} {o : Oper} {a : Act} {Q : Exit → Act → World → Prop} (hgd : o.guard = none) (s u : Operand)
    (ho : o.op = .call { callee := .builtin .append, args := #[s, u], argTypes := #[24, 24] })
    (lo : Nat) (v : Value) (n : Nat) (xs : List Int) (hs : a.eval s = v) (h : w.ownsRow lo 75 2 v n (ints xs)) (src : Value) (m : Nat) (ys : List Int)
    (hx : a.eval u = src) (hp : Part w 2 src m ys) (hn : n + m ≤ 1000000) (hbase : lo ≤ w.heap.size)
    (hK : ∀ v' w', w'.ownsRow lo 75 2 v' (n + m) (ints (xs ++ ys)) → w.grownBy w' v.ownBlock → wpList Try.prog ops Q rest (a.put o.dst v') w') : wpList Try.prog ops Q (o :: rest) a w :=
  wpList_plain hgd fun _ hk => wp_part s u ho lo v n xs hs h src m ys hx hp hn hbase fun v' w' h1 h2 => hk _ _ (hK v' w' h1 h2)
theorem addAt (b off j : Nat) : (⟨b, off, none⟩ : Addr).add j = ⟨b, off + j, none⟩ := by unfold Addr.add; split <;> simp_all
theorem part_one {w : World} {g : Nat} {p l : Int} (h : Blk w g 75 #[.int .i64 p, .int .i64 l]) : Part w 2 (.slice (some ⟨g, 0, none⟩) 1 1) 1 [p, l] := by
  refine ⟨rfl, .inr ⟨_, _, rfl, fun j hj => ?_⟩⟩
  rw [addAt, Nat.zero_add, h.cell]
  match j, hj with
  | 0, _ => rfl
  | 1, _ => rfl
theorem own_cast {w : World} {lo sz n m : Nat} {e : TypeId} {v : Value} {xs ys : List Int} (h : w.ownsRow lo e sz v n (ints xs)) (hn : n = m) (hx : ys = xs) : w.ownsRow lo e sz v m (ints ys) := by
  rw [← hn, hx]; exact h
theorem own_at {w : World} {base sz k c : Nat} {e : TypeId} {A : Option Addr} {vs : List Value} (h : w.ownsRow base e sz (.slice A k c) k vs) (hk : 0 < k) : ∃ g1, A = some ⟨g1, 0, none⟩ ∧ base ≤ g1 := by
  rcases h.2 with ⟨hv, _⟩ | ⟨g1, cap, cur, hv, hb, _⟩
  · simp only [Value.slice.injEq] at hv; omega
  · simp only [Value.slice.injEq, true_and] at hv
    exact ⟨g1, hv.1, hb⟩
theorem part_rd {w : World} {B n c : Nat} {A : Option Addr} {xs : List Int} (h : Rd w B 2 (.slice A n c) n xs) (hn : 0 < n) : Part w 2 (.slice A n c) n xs := by
  obtain ⟨hl, A', c', e, h⟩ := h
  simp only [Value.slice.injEq, true_and] at e
  obtain ⟨rfl, rfl⟩ := e
  obtain ⟨b, off, rfl, _, hc⟩ := h hn
  exact ⟨hl, .inr ⟨_, _, rfl, fun j hj => by rw [addAt]; exact hc j hj⟩⟩
end Go.Proofs.Ytnlneblipedddaa
