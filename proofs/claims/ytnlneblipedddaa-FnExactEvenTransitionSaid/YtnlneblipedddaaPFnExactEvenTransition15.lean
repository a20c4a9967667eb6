/- The word for a list of spots in the midst of a draw, and what the draws of charts ask: search and copy. Condition: the lists can be read. -/
import Derived.Test.YtnlneblipedddaaPFnExactEvenTransition14
import Derived.Test.YtnlneblipedddaaPFnExactEvenTransition07
import Derived.Test.YtnlneblipedddaaPFnExactEvenTransition01
namespace Go.Proofs.Ytnlneblipedddaa
open Go.RowKit

/-- The list u of k spots xs is owned, from the world a on, and the source is block g. -/
structure Lso (a : World) (B g N : Nat) (W : World) (u : Value) (k : Nat) (xs : List Int) : Prop where
  own : W.ownsRow a.heap.size 75 2 u k (ints xs)
  cur : Cur W B g N
  only : a.grownBy W (some g)
section
variable {a W W' : World} {B g N M k : Nat} {u u' : Value} {xs ys : List Int}
theorem Lso.start (h : Cur a B g N) : Lso a B g N a (.slice none 0 0) 0 [] := ⟨World.ownsRow_nil _ _ _ _, h, World.grownBy.refl _ _⟩
theorem Lso.ask (h : Lso a B g N W u k xs) (hlt : g < a.heap.size) (hc : Cur W' B g M) (hg : W.grownBy W' (some g)) : Lso a B g M W' u k xs := ⟨own_ask h.own hlt hg, hc, grow_trans h.only hg⟩
theorem Lso.alloc (h : Lso a B g N W u k xs) (o : Obj) : Lso a B g N (W.alloc o) u k xs := ⟨h.own.alloc o, h.cur.alloc o, only_alloc h.only o⟩
theorem Lso.drewN (h : Lso a B g N W u k xs) (n : Nat) : Lso a B g N (W.drewN n) u k xs := ⟨h.own, h.cur, only_drewN h.only n⟩
theorem Lso.len (h : Lso a B g N W u k xs) : xs.length = k * 2 := by have := h.own.1; rwa [ints_length] at this
theorem Lso.le (h : Lso a B g N W u k xs) (hN : N ≤ M) : Lso a B g M W u k xs := ⟨h.own, h.cur.le hN, h.only⟩
theorem Lso.form (h : Lso a B g N W u k xs) : ∃ A c, u = .slice A k c := by obtain ⟨_, A, c, e, _⟩ := Rd.of_own h.own; exact ⟨A, c, e⟩
theorem Lso.put (h : Lso a B g N W u k xs) {p : Addr} (hb : u.ownBlock ≠ some p.block) (hg : g < p.block) (hw : a.heap.size ≤ p.block) (v : Value) : Lso a B g N (W.setCell p v) u k xs :=
  ⟨h.own.kept (only_setCell (World.grownBy.refl W (some p.block)) rfl v) (.inr hb), h.cur.setCell hg v, only_set h.only hw v⟩
theorem Lso.below (h : Lso a B g N W u k xs) (hb : Below W.heap.size W W') : Lso a B g N W' u k xs :=
  ⟨own_below h.own hb (Nat.le_refl _), h.cur.grown (row := none) ⟨hb.os, hb.tape, hb.output, hb.size, fun i hi _ => hb.block i hi⟩ (fun k hk => by cases hk), grow_trans h.only ⟨hb.os, hb.tape, hb.output, hb.size, fun i hi _ => hb.block i hi⟩⟩
end
theorem part_own {w : World} {lo k c : Nat} {A : Option Addr} {e : TypeId} {xs : List Int} (h : w.ownsRow lo e 2 (.slice A k c) k (ints xs)) : Part w 2 (.slice A k c) k xs := by
  have hl : xs.length = k * 2 := by have := h.1; rwa [ints_length] at this
  rcases h.2 with ⟨hv, h0⟩ | ⟨g, cap, cur, hv, _⟩
  · simp only [Value.slice.injEq] at hv
    obtain ⟨rfl, rfl, rfl⟩ := hv
    exact ⟨hl, .inl ⟨rfl, rfl⟩⟩
  · simp only [Value.slice.injEq, true_and] at hv
    obtain ⟨rfl, rfl⟩ := hv
    refine ⟨hl, .inr ⟨_, _, rfl, fun j hj => ?_⟩⟩
    rw [addAt, Nat.zero_add, h.cellAt j (by omega)]
    exact ints_get xs j (by omega)
set_option maxHeartbeats 1000000 in
theorem chOwn_any (v : Value) (lo n : Nat) (xs : List Int) (w : World) (hv : w.ownsRow lo 75 2 v n (ints xs)) (hn : n ≤ 1000) :
    Calls Try.prog 71 #[v] w fun e w' => ∃ u, e = .returned u ∧ w'.ownsRow w.heap.size 75 2 u n (ints xs) ∧ Below w.heap.size w w' := by
  obtain ⟨_, A, c, rfl, _⟩ := Rd.of_own hv
  have hP := part_own (hv.alloc (.cells #[] 75))
  have HE := Lib.hid (show (w.alloc (.cells #[] 75)).ownsRow w.heap.size 75 2 (.slice (some ⟨w.heap.size, 0, none⟩) 0 0) 0 (ints []) from own_empty w 75 2)
  have HB := Lib.hid (below_new (Below.refl w.heap.size w) (.cells #[] 75))
  have HP := Lib.hid hP
  clear hv hP
  go_enter Try.func71, Try.ntmps71
  go_wp2_with (at_builtin; refine app_part rfl _ _ rfl w.heap.size _ 0 [] rfl HE.out _ n xs rfl HP.out (by omega) HB.out.size ?_; intro v9 w9 hr9 hg9)
  have HB9 := Lib.hid (HB.out.grown hg9 HB.out.size (fun k hk => (HE.out.lt k hk).1))
  have HO9 := Lib.hid (own_cast hr9 (Nat.zero_add n) (List.nil_append xs).symm)
  clear hr9 hg9
  go_wp2_with fail
  go_ret
  exact ⟨_, rfl, HO9.out, HB9.out⟩
set_option maxHeartbeats 1000000 in
theorem chFind_any (v : Value) (n B : Nat) (xs : List Int) (a b : Int) (w : World) (hv : Rd w B 2 v n xs) (hB : B ≤ w.heap.size) (hn : n ≤ 1099511627776) :
    Calls Try.prog 99 #[v, (Value.agg #[Value.int .i64 a, Value.int .i64 b])] w fun e w' => ∃ r : Int, e = .returned (.int .i64 r) ∧ (0 ≤ r → ∃ j, j < n ∧ xs.getD (j * 2) 0 = a ∧ xs.getD (j * 2 + 1) 0 = b) ∧ Below w.heap.size w w' := by
  obtain ⟨hl, A, c, rfl, hA⟩ := hv
  have HA := Lib.hid hA
  clear hA hl
  go_enter Try.func99, Try.ntmps99
  have SA := Lib.hid (Blk.new w 75 #[.int .i64 a, .int .i64 b])
  have HB0 := Lib.hid (below_new (Below.refl w.heap.size w) (.cells #[.int .i64 a, .int .i64 b] 75))
  go_wp2_with fail
  go_loopw [9] (fun i wr => ∃ k : Nat, k ≤ n ∧ i = .int .i64 k ∧ Below w.heap.size w wr ∧ Blk wr w.heap.size 75 #[.int .i64 a, .int .i64 b]) (fun i _ => n - (intOf i).toNat)
  case atStart => exact ⟨0, Nat.zero_le _, rfl, HB0.out, SA.out⟩
  case round =>
    clear SA HB0
    obtain ⟨k, hk, rfl, hb, hs⟩ := hrel
    have HB := Lib.hid hb
    have HS := Lib.hid hs
    clear hb hs
    by_cases hlt : k < n
    · obtain ⟨bb, off, rfl, hbB, hc⟩ := HA.out (by omega)
      have c0 := (HB.out.cell (p := ⟨bb, off + k * 2, none⟩) (Nat.lt_of_lt_of_le hbB hB)).trans (hc (k * 2) (by omega))
      have c1 := (HB.out.cell (p := ⟨bb, off + (k * 2 + 1), none⟩) (Nat.lt_of_lt_of_le hbB hB)).trans (hc (k * 2 + 1) (by omega))
      rw [← Nat.add_assoc] at c1
      have hfound : xs.getD (k * 2) 0 = a → xs.getD (k * 2 + 1) 0 = b → ∃ j, j < n ∧ xs.getD (j * 2) 0 = a ∧ xs.getD (j * 2 + 1) 0 = b := fun h1 h2 => ⟨k, hlt, h1, h2⟩
      obtain ⟨x, ex⟩ : ∃ q, xs.getD (k * 2) 0 = q := ⟨_, rfl⟩
      obtain ⟨y, ey⟩ : ∃ q, xs.getD (k * 2 + 1) 0 = q := ⟨_, rfl⟩
      rw [ex, ey] at hfound
      rw [ex] at c0
      rw [ey] at c1
      have HF := Lib.hid hfound
      have i0 : (0 : Int) ≤ (k : Int) := by omega
      have i1 : (k : Int) < (n : Int) := by omega
      obtain ⟨s0, s1⟩ := HS.out.c2
      have hlt2 := HS.out.lt
      have SX := Lib.hid (Blk.new wr 75 #[.int .i64 x, .int .i64 y])
      have HBx := Lib.hid (below_new HB.out (.cells #[.int .i64 x, .int .i64 y] 75))
      have HSx := Lib.hid (HS.out.alloc (.cells #[.int .i64 x, .int .i64 y] 75))
      obtain ⟨x0, x1⟩ := SX.out.c2
      clear hc hfound ex ey
      by_cases h1 : x = a
      · subst h1
        have e1 : (x == x) = true := by simp
        by_cases h2 : y = b
        · subst h2
          have e2 : (y == y) = true := by simp
          go_wp2_with fail
          go_ret
          exact ⟨_, rfl, fun _ => HF.out (by first | trivial | rfl) (by first | trivial | rfl), HBx.out⟩
        · have e2 : (y == b) = false := by simpa using h2
          clear h2
          go_wp2_with fail
          go_roundw
          case rel => exact ⟨k + 1, by omega, by go_num, HBx.out, HSx.out⟩
          case measure => simp [intOf]; omega
      · have e1 : (x == a) = false := by simpa using h1
        clear h1
        go_wp2_with fail
        go_roundw
        case rel => exact ⟨k + 1, by omega, by go_num, HBx.out, HSx.out⟩
        case measure => simp [intOf]; omega
    · obtain rfl : k = n := by omega
      go_wp2_with fail
      go_ret
      exact ⟨-1, rfl, fun h => by omega, HB.out⟩
end Go.Proofs.Ytnlneblipedddaa
