/- Numbers that are drawn, and a new source of choices. Condition: the source's bytes can be read. -/
import Derived.Test.YtamehlafmfmgmaaDoorCurWay
namespace Go.Proofs.YtamehlafmfmgmaaDoor
open Go.RowKit

/-- A number is handed out, and nothing but block g has changed. -/
def HandsAny (B g N : Nat) (w : World) (e : Ending) (w' : World) : Prop := ∃ r : Int, (-1000000 ≤ r ∧ r ≤ 1000000) ∧ e = .returned (.int .i64 r) ∧ Cur w' B g N ∧ w.grownBy w' (some g)
theorem only_below {w w' : World} {g : Nat} (h : Below w.heap.size w w') : w.grownBy w' (some g) := ⟨h.os, h.tape, h.output, h.size, fun i hi _ => h.block i hi⟩
/-- A new source. -/
theorem Cur.new (w : World) (A : Option Addr) (n c : Nat) (h : RdB w w.heap.size A n) (hn : n ≤ 9223372036854775807) : Cur (w.alloc (.cells #[.slice A n c, .int .i64 0, .int .u64 0] 67)) w.heap.size w.heap.size 0 :=
  ⟨Nat.le_refl _, A, n, c, 0, 0, Blk.new w _ _, hn, Nat.le_refl _, h.keep fun p hp => World.cell?_alloc_lt w _ p hp⟩
theorem below_cur {w w' : World} (o : Obj) (h : (w.alloc o).grownBy w' (some w.heap.size)) : Below w.heap.size w w' :=
  ((Below.refl _ _).alloc (Nat.le_refl _) o).grown h (by simp) (fun k hk => by injection hk with hk; omega)
end Go.Proofs.YtamehlafmfmgmaaDoor
