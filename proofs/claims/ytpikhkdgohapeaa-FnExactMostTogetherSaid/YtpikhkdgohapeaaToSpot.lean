/- The contract of toSpot. Without conditions. -/
import Derived.Test.YtpikhkdgohapeaaMem
import Derived.Test.YtpikhkdgohapeaaProg
import Derived.KernelRfl
namespace Go.Proofs.Ytpikhkdgohapeaa
open Go.RowKit
theorem toSpot_exact (x y : Int) (w : World) : Calls Try.prog 33 #[(Value.agg #[Value.int .i64 x, Value.int .i64 y])] w fun e w' => e = .returned (Value.agg #[Value.int .i64 x, Value.int .i64 y]) ∧
    w' = ((w.alloc (.cells #[.int .i64 x, .int .i64 y] 23)).alloc (.cells #[.int .i64 x, .int .i64 y] 28)).alloc (.cells #[.int .i64 x, .int .i64 y] 28) := by
  go_enter Try.func33, Try.ntmps33
  go_wp2
  exact bodyPost_ret (v := (Value.agg #[Value.int .i64 x, Value.int .i64 y])) (by simp [results, Try.results33, go_sem]) rfl ⟨rfl, rfl⟩
theorem toSpot_any (x y : Int) (w : World) : Calls Try.prog 33 #[(Value.agg #[Value.int .i64 x, Value.int .i64 y])] w fun e w' => e = .returned (Value.agg #[Value.int .i64 x, Value.int .i64 y]) ∧ Below w.heap.size w w' :=
  (toSpot_exact x y w).mono fun _ _ ⟨h1, h2⟩ => ⟨h1, by rw [h2]; exact (((Below.refl _ _).alloc (Nat.le_refl _) _).alloc (by simp) _).alloc (by simp; omega) _⟩

end Go.Proofs.Ytpikhkdgohapeaa
