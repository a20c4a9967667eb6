/- Numbers that are drawn, and a new source of choices. Condition: the source's bytes can be read. A list of whole numbers in the midst of a draw. Condition: the source's bytes can be read. A drawn least distance. Condition: the source's bytes can be read. -/
import Derived.Test.YtjcepipgjpaclaaPFnConflicts35
import Derived.Test.YtjcepipgjpaclaaPFnConflicts03
namespace Go.Proofs.Ytjcepipgjpaclaa
open Go.RowKit

/-- A number is handed out, and nothing but block g has changed. -/
def HandsAny (B g N : Nat) (w : World) (e : Ending) (w' : World) : Prop := ∃ r : Int, (-1000000 ≤ r ∧ r ≤ 1000000) ∧ e = .returned (.int .i64 r) ∧ Cur w' B g N ∧ w.grownBy w' (some g)
theorem only_below {w w' : World} {g : Nat} (h : Below w.heap.size w w') : w.grownBy w' (some g) := ⟨h.os, h.tape, h.output, h.size, fun i hi _ => h.block i hi⟩
set_option maxRecDepth 100000 in
set_option maxHeartbeats 1000000 in
theorem stepOf_any (B g N : Nat) (w : World) (h : Cur w B g N) (hN : N ≤ 1000000000) : Calls Try.prog 114 #[.pointer (some ⟨g, 0, none⟩)] w (HandsAny B g (N + 4) w) := by
  have C0 := Lib.hid h
  have G0 := Lib.hid (World.grownBy.refl w (some g))
  clear h
  go_enter Try.func114, Try.ntmps114
  have A1 := Lib.hid (Blk.new w 3 (ints [0, 25]).toArray)
  have C19 := Lib.hid (C0.out.alloc (.cells (ints [0, 25]).toArray 3))
  have G19 := Lib.hid (only_alloc G0.out (.cells (ints [0, 25]).toArray 3))
  go_wp2_with fail
  refine (among_blk B g (N + 0) w.heap.size _ [0, 25] 0 25 _ C19.out (by omega) C0.out.lt A1.out (by simp) (by simp) (by simp; try omega)).mono ?_
  rintro e w1 ⟨y1, y10, y11, rfl, hc, hg⟩
  have C1 := Lib.hid hc
  have G1 := Lib.hid (grow_trans G19.out hg)
  clear hc hg C19 G19 A1
  have A2 := Lib.hid (Blk.new w1 3 (ints [1, 4, 8, 12, 16, 24, y1]).toArray)
  have C29 := Lib.hid (C1.out.alloc (.cells (ints [1, 4, 8, 12, 16, 24, y1]).toArray 3))
  have G29 := Lib.hid (only_alloc G1.out (.cells (ints [1, 4, 8, 12, 16, 24, y1]).toArray 3))
  go_wp2_with fail
  refine (among_blk B g (N + 2) w1.heap.size _ [1, 4, 8, 12, 16, 24, y1] 0 25 _ C29.out (by omega) C1.out.lt A2.out (by simp) (by simp) (by simp; try omega)).mono ?_
  rintro e w2 ⟨y2, y20, y21, rfl, hc, hg⟩
  have C2 := Lib.hid hc
  have G2 := Lib.hid (grow_trans G29.out hg)
  clear hc hg C29 G29 A2
  go_wp2_with fail
  go_ret
  exact ⟨y2, by omega, rfl, C2.out, G2.out⟩
/-- A new source. -/
theorem Cur.new (w : World) (A : Option Addr) (n c : Nat) (h : RdB w w.heap.size A n) (hn : n ≤ 9223372036854775807) : Cur (w.alloc (.cells #[.slice A n c, .int .i64 0, .int .u64 0] 81)) w.heap.size w.heap.size 0 :=
  ⟨Nat.le_refl _, A, n, c, 0, 0, Blk.new w _ _, hn, Nat.le_refl _, h.keep fun p hp => World.cell?_alloc_lt w _ p hp⟩
theorem below_cur {w w' : World} (o : Obj) (h : (w.alloc o).grownBy w' (some w.heap.size)) : Below w.heap.size w w' :=
  ((Below.refl _ _).alloc (Nat.le_refl _) o).grown h (by simp) (fun k hk => by injection hk with hk; omega)
end Go.Proofs.Ytjcepipgjpaclaa

namespace Go.Proofs.Ytjcepipgjpaclaa
open Go.RowKit

theorem own_ask {W W' : World} {base g sz n : Nat} {e : TypeId} {v : Value} {vs : List Value} (h : W.ownsRow base e sz v n vs) (hlt : g < base) (hg : W.grownBy W' (some g)) : W'.ownsRow base e sz v n vs :=
  h.kept hg (.inr fun e => by have := (h.lt g e).1; omega)
theorem own_start {w : World} {base sz k c : Nat} {e : TypeId} {A : Option Addr} {vs : List Value} (h : w.ownsRow base e sz (.slice A k c) k vs) (hk : 0 < k) : ∃ g1, A = some ⟨g1, 0, none⟩ ∧ base ≤ g1 := by
  rcases h.2 with ⟨hv, _⟩ | ⟨g1, cap, cur, hv, hb, _⟩
  · simp only [Value.slice.injEq] at hv; omega
  · simp only [Value.slice.injEq, true_and] at hv
    exact ⟨g1, hv.1, hb⟩
/-- The list u of k numbers xs is owned, from the world a on, and the source is block g. -/
structure Ln (a : World) (B g N : Nat) (W : World) (u : Value) (k : Nat) (xs : List Int) : Prop where
  own : W.ownsRow a.heap.size 3 1 u k (ints xs)
  cur : Cur W B g N
  only : a.grownBy W (some g)
section
variable {a W W' : World} {B g N M k : Nat} {u u' : Value} {xs : List Int}
theorem Ln.start (h : Cur a B g N) : Ln a B g N a (.slice none 0 0) 0 [] := ⟨World.ownsRow_nil _ _ _ _, h, World.grownBy.refl _ _⟩
theorem Ln.ask (h : Ln a B g N W u k xs) (hlt : g < a.heap.size) (hc : Cur W' B g M) (hg : W.grownBy W' (some g)) : Ln a B g M W' u k xs := ⟨own_ask h.own hlt hg, hc, grow_trans h.only hg⟩
theorem Ln.alloc (h : Ln a B g N W u k xs) (o : Obj) : Ln a B g N (W.alloc o) u k xs := ⟨h.own.alloc o, h.cur.alloc o, only_alloc h.only o⟩
theorem Ln.len (h : Ln a B g N W u k xs) : xs.length = k := by have := h.own.1; rw [ints_length] at this; omega
theorem Ln.le (h : Ln a B g N W u k xs) (hN : N ≤ M) : Ln a B g M W u k xs := ⟨h.own, h.cur.le hN, h.only⟩
theorem Ln.form (h : Ln a B g N W u k xs) : ∃ A c, u = .slice A k c := by obtain ⟨_, A, c, e, _⟩ := Rd.of_own h.own; exact ⟨A, c, e⟩
theorem Ln.app (h : Ln a B g N W u k xs) {x : Int} (o : Obj) (ho : W'.ownsRow a.heap.size 3 1 u' (k + 1) (ints (xs ++ [x]))) (hlt : g < a.heap.size) (hg : (W.alloc o).grownBy W' u.ownBlock) : Ln a B g N W' u' (k + 1) (xs ++ [x]) :=
  ⟨ho, (h.cur.alloc o).grown hg (fun j hj => by have := (h.own.lt j hj).1; omega), only_grown (only_alloc h.only o) hg (fun j hj => .inr (h.own.lt j hj).1)⟩
end
end Go.Proofs.Ytjcepipgjpaclaa

namespace Go.Proofs.Ytjcepipgjpaclaa
open Go.RowKit

set_option maxRecDepth 100000 in
set_option maxHeartbeats 1000000 in
theorem leastDistance_any (B g N : Nat) (w : World) (h : Cur w B g N) (hN : N ≤ 1000000000) : Calls Try.prog 68 #[.pointer (some ⟨g, 0, none⟩)] w (HandsAny B g (N + 6) w) := by
  have C0 := Lib.hid h
  have G0 := Lib.hid (World.grownBy.refl w (some g))
  clear h
  go_enter Try.func68, Try.ntmps68
  go_wp2_with fail
  refine (pick_any B g (N + 0) 81 _ C0.out (by omega) (by omega)).mono ?_
  rintro e w1 ⟨x1, x10, x11, rfl, hc, hg⟩
  have C1 := Lib.hid hc
  have G1 := Lib.hid (grow_trans G0.out hg)
  clear hc hg
  simp [pickHi] at x11
  have A2 := Lib.hid (Blk.new w1 3 (ints [80, 81, -1]).toArray)
  have C29 := Lib.hid (C1.out.alloc (.cells (ints [80, 81, -1]).toArray 3))
  have G29 := Lib.hid (only_alloc G1.out (.cells (ints [80, 81, -1]).toArray 3))
  go_wp2_with fail
  refine (among_blk B g (N + 2) w1.heap.size _ [80, 81, -1] (-1) 81 _ C29.out (by omega) C1.out.lt A2.out (by simp) (by simp) (by simp; try omega)).mono ?_
  rintro e w2 ⟨y2, y20, y21, rfl, hc, hg⟩
  have C2 := Lib.hid hc
  have G2 := Lib.hid (grow_trans G29.out hg)
  clear hc hg C29 G29 A2
  have A3 := Lib.hid (Blk.new w2 3 (ints [0, 1, 8, 16, 24, x1, y2]).toArray)
  have C39 := Lib.hid (C2.out.alloc (.cells (ints [0, 1, 8, 16, 24, x1, y2]).toArray 3))
  have G39 := Lib.hid (only_alloc G2.out (.cells (ints [0, 1, 8, 16, 24, x1, y2]).toArray 3))
  go_wp2_with fail
  refine (among_blk B g (N + 4) w2.heap.size _ [0, 1, 8, 16, 24, x1, y2] (-1) 81 _ C39.out (by omega) C2.out.lt A3.out (by simp) (by simp) (by simp; try omega)).mono ?_
  rintro e w3 ⟨y3, y30, y31, rfl, hc, hg⟩
  have C3 := Lib.hid hc
  have G3 := Lib.hid (grow_trans G39.out hg)
  clear hc hg C39 G39 A3
  go_wp2_with fail
  go_ret
  exact ⟨y3, by omega, rfl, C3.out, G3.out⟩
end Go.Proofs.Ytjcepipgjpaclaa
