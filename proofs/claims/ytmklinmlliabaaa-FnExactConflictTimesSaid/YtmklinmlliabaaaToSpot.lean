/- The contract of toSpot. Without conditions. -/
import Derived.Test.YtmklinmlliabaaaMem
import Derived.Test.YtmklinmlliabaaaProg
import Derived.KernelRfl
namespace Go.Proofs.Ytmklinmlliabaaa
open Go.RowKit
theorem toSpot_exact (x y : Int) (w : World) : Calls Try.prog 57 #[(Value.agg #[Value.int .i64 x, Value.int .i64 y])] w fun e w' => e = .returned (Value.agg #[Value.int .i64 x, Value.int .i64 y]) ∧
    w' = ((w.alloc (.cells #[.int .i64 x, .int .i64 y] 70)).alloc (.cells #[.int .i64 x, .int .i64 y] 60)).alloc (.cells #[.int .i64 x, .int .i64 y] 60) := by
  go_enter Try.func57, Try.ntmps57
  go_wp2
  exact bodyPost_ret (v := (Value.agg #[Value.int .i64 x, Value.int .i64 y])) (by simp [results, Try.results57, go_sem]) rfl ⟨rfl, rfl⟩
theorem toSpot_any (x y : Int) (w : World) : Calls Try.prog 57 #[(Value.agg #[Value.int .i64 x, Value.int .i64 y])] w fun e w' => e = .returned (Value.agg #[Value.int .i64 x, Value.int .i64 y]) ∧ Below w.heap.size w w' :=
  (toSpot_exact x y w).mono fun _ _ ⟨h1, h2⟩ => ⟨h1, by rw [h2]; exact (((Below.refl _ _).alloc (Nat.le_refl _) _).alloc (by simp) _).alloc (by simp; omega) _⟩

end Go.Proofs.Ytmklinmlliabaaa
