/- What '==' and '!=' on two spots come to, as facts for a walk. Without conditions. -/
import Derived.Test.YtpikhkdgohapeaaMem
import Derived.Test.YtpikhkdgohapeaaProg
namespace Go.Proofs.Ytpikhkdgohapeaa
open Go.RowKit
theorem eql_spots_no {x y z u : Int} (h : ¬ (x = z ∧ y = u)) : ∀ w, (binOp .eql 28 (Value.agg #[Value.int .i64 x, Value.int .i64 y]) (Value.agg #[Value.int .i64 z, Value.int .i64 u])).run Try.prog w = .ok (.bool false) w := by
  intro w
  by_cases h1 : x = z
  · have h2 : ¬ y = u := fun h' => h ⟨h1, h'⟩
    go_simp
  · go_simp
theorem eql_spots_yes (x y : Int) : ∀ w, (binOp .eql 28 (Value.agg #[Value.int .i64 x, Value.int .i64 y]) (Value.agg #[Value.int .i64 x, Value.int .i64 y])).run Try.prog w = .ok (.bool true) w := by
  intro w
  go_simp
end Go.Proofs.Ytpikhkdgohapeaa
