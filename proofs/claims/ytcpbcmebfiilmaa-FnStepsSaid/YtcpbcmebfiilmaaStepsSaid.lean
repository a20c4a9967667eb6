/- What the laws on steps draw, as words; and '!=' on two spots. Without conditions. -/
import Derived.Test.YtcpbcmebfiilmaaMem
import Derived.Test.YtcpbcmebfiilmaaProg
namespace Go.Proofs.Ytcpbcmebfiilmaa
open Go.RowKit
def DrawnM (w : World) (e : Ending) (w' : World) : Prop := ∃ x y z u c : Int, e = .returned (Value.agg #[Value.int .i64 x, Value.int .i64 y, Value.int .i64 z, Value.int .i64 u, Value.int .i64 c]) ∧ Below w.heap.size w w'
def DrawnMI (w : World) (e : Ending) (w' : World) : Prop := ∃ x y z u c f : Int, e = .returned (.tuple #[(Value.agg #[Value.int .i64 x, Value.int .i64 y, Value.int .i64 z, Value.int .i64 u, Value.int .i64 c]), .int .i64 f]) ∧ Below w.heap.size w w'
def DrawnIM (w : World) (e : Ending) (w' : World) : Prop := ∃ f x y z u c : Int, e = .returned (.tuple #[.int .i64 f, (Value.agg #[Value.int .i64 x, Value.int .i64 y, Value.int .i64 z, Value.int .i64 u, Value.int .i64 c])]) ∧ Below w.heap.size w w'
def DrawnIMIII (w : World) (e : Ending) (w' : World) : Prop := ∃ f x y z u c p q r : Int, e = .returned (.tuple #[.int .i64 f, (Value.agg #[Value.int .i64 x, Value.int .i64 y, Value.int .i64 z, Value.int .i64 u, Value.int .i64 c]), .int .i64 p, .int .i64 q, .int .i64 r]) ∧ Below w.heap.size w w'
theorem neq_same (x y : Int) : ∀ w, (binOp .neq 25 (Value.agg #[Value.int .i64 x, Value.int .i64 y]) (Value.agg #[Value.int .i64 x, Value.int .i64 y])).run Try.prog w = .ok (.bool false) w := by
  intro w
  go_simp
theorem neq_other {x y z u : Int} (h : ¬ (x = z ∧ y = u)) : ∀ w, (binOp .neq 25 (Value.agg #[Value.int .i64 x, Value.int .i64 y]) (Value.agg #[Value.int .i64 z, Value.int .i64 u])).run Try.prog w = .ok (.bool true) w := by
  intro w
  by_cases h1 : x = z
  · have h2 : ¬ y = u := fun h' => h ⟨h1, h'⟩
    go_simp
  · go_simp
end Go.Proofs.Ytcpbcmebfiilmaa
