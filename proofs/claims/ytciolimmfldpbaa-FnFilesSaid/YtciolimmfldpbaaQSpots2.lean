/- The law's own comparison of two lists of spots, where they are the same; and '!=' on one and the same spot. Condition: both can be read. The square of two spots on the field, in the program. Condition: both lie on the field. -/
import Derived.Test.YtciolimmfldpbaaSpotAt
import Derived.Test.YtciolimmfldpbaaProg
import Derived.BigQuiet
import Derived.Deep.QuietTactic
import Derived.Test.YtciolimmfldpbaaSquareOf
import Derived.Test.YtciolimmfldpbaaSpot
namespace Go.Proofs.Ytciolimmfldpbaa
open Go.RowKit
theorem neq_spots_same (x y : Int) : ∀ w, (binOp .neq 29 (Value.agg #[Value.int .i64 x, Value.int .i64 y]) (Value.agg #[Value.int .i64 x, Value.int .i64 y])).run Try.prog w = .ok (.bool false) w := by
  intro w
  go_simp
set_option maxHeartbeats 800000 in
theorem qSpots_same (v u : Value) (n B : Nat) (xs : List Int) (w : World) (hv : Rd w B 2 v n xs) (hu : Rd w B 2 u n xs) (hB : B ≤ w.heap.size) (hn : n ≤ 1099511627776) :
    Calls Try.prog 33 #[v, u] w fun e w' => e = .returned (.bool true) ∧ Below w.heap.size w w' := by
  obtain ⟨A, c, rfl⟩ := hv.form
  obtain ⟨C, d, rfl⟩ := hu.form
  have Hv := Lib.hid hv
  have Hu := Lib.hid hu
  clear hv hu
  have hnn : ((n : Int) != (n : Int)) = false := by simp
  go_enter Try.func33, Try.ntmps33
  go_wp2_with fail
  go_loopw [13] (fun i wr => ∃ k : Nat, k ≤ n ∧ i = .int .i64 k ∧ Below w.heap.size w wr) (fun i _ => n - (intOf i).toNat)
  case atStart => exact ⟨0, Nat.zero_le _, rfl, Below.refl _ _⟩
  case round =>
    obtain ⟨k, hk, rfl, hb⟩ := hrel
    by_cases hlt : k < n
    · obtain ⟨b, off, rfl, hbB, hc⟩ := Hv.out.spot (by omega)
      obtain ⟨b', off', rfl, hbB', hc'⟩ := Hu.out.spot (by omega)
      have c0 := (hb.cell (p := ⟨b, off + k * 2, none⟩) (Nat.lt_of_lt_of_le hbB hB)).trans (hc k hlt).1
      have c1 := (hb.cell (p := ⟨b, off + k * 2 + 1, none⟩) (Nat.lt_of_lt_of_le hbB hB)).trans (hc k hlt).2
      have d0 := (hb.cell (p := ⟨b', off' + k * 2, none⟩) (Nat.lt_of_lt_of_le hbB' hB)).trans (hc' k hlt).1
      have d1 := (hb.cell (p := ⟨b', off' + k * 2 + 1, none⟩) (Nat.lt_of_lt_of_le hbB' hB)).trans (hc' k hlt).2
      obtain ⟨x, ex⟩ : ∃ x, X xs k = x := ⟨_, rfl⟩
      obtain ⟨y, ey⟩ : ∃ y, Y xs k = y := ⟨_, rfl⟩
      rw [ex] at c0 d0
      rw [ey] at c1 d1
      have nq := neq_spots_same x y
      have hk0 : (0 : Int) ≤ (k : Int) := by omega
      have hk1 : (k : Int) < (n : Int) := by omega
      have HB := Lib.hid hb
      clear hc hc' ex ey hb
      go_wp2_with fail
      go_quiet (fail)
      go_wp2_with fail
      go_roundw
      case rel => exact ⟨k + 1, by omega, by go_num, below_drewN HB.out _⟩
      case measure => simp [intOf]; omega
    · have HB := Lib.hid hb
      clear hb
      go_wp2_with fail
      go_ret
      exact ⟨rfl, HB.out⟩
end Go.Proofs.Ytciolimmfldpbaa
namespace Go.Proofs.Ytciolimmfldpbaa
open Go.RowKit
theorem near_of {x y : Int} (h : spotB x y = true) : near x y := by have := spotB_yes h; unfold near; omega
set_option maxHeartbeats 1000000 in
theorem SquareOf_yes (x y z u : Int) (w : World) (h : spotB x y = true) (k : spotB z u = true) : Calls Try.prog 34 #[(Value.agg #[Value.int .i64 x, Value.int .i64 y]), (Value.agg #[Value.int .i64 z, Value.int .i64 u])] w fun e w' => e = .returned (.tuple #[.int .i64 (sqL x y z u), .bool true]) ∧ Below w.heap.size w w' := by
  have HS := Lib.hid (fun W => squareOf_any x y z u W (near_of h) (near_of k))
  have h1 := fun W => IsSpot_any x y W
  have h2 := fun W => IsSpot_any z u W
  rw [h] at h1
  rw [k] at h2
  have H1 := Lib.hid h1
  have H2 := Lib.hid h2
  clear h1 h2 h k
  have A0 := Lib.hid ((Blk.new w 29 #[.int .i64 x, .int .i64 y]).alloc (.cells #[.int .i64 z, .int .i64 u] 29))
  have B0 := Lib.hid (show Blk ((w.alloc (.cells #[.int .i64 x, .int .i64 y] 29)).alloc (.cells #[.int .i64 z, .int .i64 u] 29)) (w.heap.size + 1) 29 #[.int .i64 z, .int .i64 u] by have := Blk.new (w.alloc (.cells #[.int .i64 x, .int .i64 y] 29)) 29 #[.int .i64 z, .int .i64 u]; simpa using this)
  have HB := Lib.hid (below_new (below_new (Below.refl w.heap.size w) (.cells #[.int .i64 x, .int .i64 y] 29)) (.cells #[.int .i64 z, .int .i64 u] 29))
  go_enter Try.func34, Try.ntmps34
  go_wp2_with fail
  refine (H1.out _).mono ?_
  rintro e w1 ⟨rfl, hb⟩
  replace A0 := Lib.hid (A0.out.on hb)
  replace B0 := Lib.hid (B0.out.on hb)
  replace HB := Lib.hid (below_on HB.out hb)
  obtain ⟨b0, b1⟩ := B0.out.c2
  clear hb
  go_wp2_with fail
  refine (H2.out _).mono ?_
  rintro e w2 ⟨rfl, hb⟩
  clear b0 b1
  replace HB := Lib.hid (below_on HB.out hb)
  obtain ⟨a0, a1⟩ := (A0.out.on hb).c2
  obtain ⟨b0, b1⟩ := (B0.out.on hb).c2
  clear hb
  go_wp2_with fail
  refine (HS.out _).mono ?_
  rintro e w3 ⟨rfl, hb⟩
  replace HB := Lib.hid (below_on HB.out hb)
  clear hb
  go_wp2_with fail
  go_ret2
  exact ⟨rfl, HB.out⟩
end Go.Proofs.Ytciolimmfldpbaa
