/- Contract of the exchange of two ranges of a slice of carries (of the library's stable sort). Conditions: both lie within the slice, one behind the other. -/
import Derived.Test.YtamehlafmfmgmaaSortMem
import Derived.BigQuiet
import Derived.Shelf.RegionOpenPlain
import Derived.IntWalk
namespace Go.Proofs.Ytamehlafmfmgmaa
open Go.RowKit

set_option maxRecDepth 100000 in
set_option maxHeartbeats 2000000 in
theorem swapRange_any (cb : Value) (lo g cap n a b k : Nat) (l : List Car) (w : World) (h : Cs w w lo g cap n l) (h1 : a + k ≤ b) (h2 : b + k ≤ n) (hn : n ≤ 1000000) :
    Calls Try.prog 59 #[.slice (some ⟨g, 0, none⟩) n cap, .int .i64 a, .int .i64 b, .int .i64 k, cb] w fun e w' => e = .returned (.tuple #[]) ∧ Cs w w' lo g cap n (exchR l a b k) := by
  have H := Lib.hid h
  clear h
  go_enter Try.func59, Try.ntmps59
  go_wp2_with fail
  go_loopw [10] (fun i wr => ∃ j : Nat, j ≤ k ∧ i = .int .i64 j ∧ Cs w wr lo g cap n (exchR l a b j)) (fun i _ => k - (intOf i).toNat)
  case atStart => exact ⟨0, Nat.zero_le _, rfl, H.out⟩
  case round =>
    obtain ⟨j, hj, rfl, hc⟩ := hrel
    by_cases hlt : j < k
    · obtain ⟨m, em⟩ : ∃ m, exchR l a b j = m := ⟨_, rfl⟩
      rw [em] at hc
      have HN := Lib.hid (show exchR l a b (j + 1) = exch m (a + j) (b + j) by rw [exchR, em])
      obtain ⟨⟨p, q, f, t⟩, e1⟩ : ∃ c, m.getD (a + j) c0 = c := ⟨_, rfl⟩
      obtain ⟨⟨p', q', f', t'⟩, e2⟩ : ∃ c, m.getD (b + j) c0 = c := ⟨_, rfl⟩
      obtain ⟨u0, u1, u2, u3⟩ := hc.cells (i := a + j) (by omega) e1
      obtain ⟨v0, v1, v2, v3⟩ := hc.cells (i := b + j) (by omega) e2
      have s0 := hc.free ((a + j) * 4)
      have s1 := hc.free ((a + j) * 4 + 1)
      have s2 := hc.free ((a + j) * 4 + 2)
      have s3 := hc.free ((a + j) * 4 + 3)
      have t0 := hc.free ((b + j) * 4)
      have t1 := hc.free ((b + j) * 4 + 1)
      have t2 := hc.free ((b + j) * 4 + 2)
      have t3 := hc.free ((b + j) * 4 + 3)
      have HC := Lib.hid hc
      have E1 := Lib.hid e1
      have E2 := Lib.hid e2
      have x1 := IntWalk.i64_in ((a : Int) + (j : Int)) (by omega)
      have x2 := IntWalk.i64_in ((b : Int) + (j : Int)) (by omega)
      have y1 : (0 : Int) ≤ (a : Int) + (j : Int) := by omega
      have y2 : (0 : Int) ≤ (b : Int) + (j : Int) := by omega
      have z1 : ((a : Int) + (j : Int)).toNat = a + j := by omega
      have z2 : ((b : Int) + (j : Int)).toNat = b + j := by omega
      have r1 : (a : Int) + (j : Int) < (n : Int) := by omega
      have r2 : (b : Int) + (j : Int) < (n : Int) := by omega
      clear hc em e1 e2
      go_wp2_with fail
      have mixed : Try.prog.follows Departure.mixedOrders = true := by kernel_rfl
      go_big_region_o
      all_goals go_wp2
      go_roundw
      case rel =>
        refine ⟨j + 1, by omega, by go_num, ?_⟩
        rw [HN.out]
        refine Cs.drew ?_
        exact HC.out.exch (by omega) (by omega) E1.out E2.out rfl
      case measure => simp [intOf]; omega
    · obtain rfl : j = k := by omega
      go_wp2_with fail
      go_end0
      exact ⟨rfl, hc⟩
end Go.Proofs.Ytamehlafmfmgmaa
