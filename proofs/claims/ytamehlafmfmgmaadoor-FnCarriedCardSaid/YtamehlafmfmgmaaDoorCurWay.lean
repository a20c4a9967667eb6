/- A drawn spot that may lie off the field, and a drawn way. Condition: the source's bytes can be read. -/
import Derived.Test.YtamehlafmfmgmaaDoorCurSpot
import Derived.Deep.RegionHeld3
namespace Go.Proofs.YtamehlafmfmgmaaDoor
open Go.RowKit

theorem among_blk (B g N b c : Nat) (xs : List Int) (lo hi : Int) (w : World) (h : Cur w B g N) (hN : N ≤ 100000000000) (hb : g < b) (hk : Blk w b 3 (ints xs).toArray) (h0 : 0 < xs.length) (hl : xs.length ≤ 1000) (hlo : ∀ x ∈ xs, lo ≤ x ∧ x ≤ hi) :
    Calls Tryd.prog 36 #[.pointer (some ⟨g, 0, none⟩), .slice (some ⟨b, 0, none⟩) xs.length c] w (Hands B g (N + 2) lo hi w) :=
  among_any B g N b 0 xs.length c xs lo hi w h (by omega) h0 (by omega) (by omega) hk.lt
    (fun j hj => by rw [Nat.zero_add, hk.cell j]; simp [ints, hj])
    (fun j hj => hlo _ (by rw [List.getD_eq_getElem?_getD, List.getElem?_eq_getElem hj]; exact List.getElem_mem hj))

/-! $1 the number of questions so far, $2 the world's name, $3 the facts' suffix, $4 the one before -/
end Go.Proofs.YtamehlafmfmgmaaDoor
