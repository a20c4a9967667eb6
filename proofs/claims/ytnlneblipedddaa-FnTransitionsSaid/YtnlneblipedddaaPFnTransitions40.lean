/- Contracts of the laws' comparisons of spots and of transitions, where they are the same. Condition: both can be read. -/
import Derived.Test.YtnlneblipedddaaPFnTransitions36
import Derived.Test.YtnlneblipedddaaPFnTransitions05
import Derived.Test.YtnlneblipedddaaPFnTransitions17
import Derived.BigQuiet
import Derived.Deep.QuietTactic
namespace Go.Proofs.Ytnlneblipedddaa
open Go.RowKit

theorem neq_spots_same (x y : Int) : ∀ w, (binOp .neq 75 (Value.agg #[Value.int .i64 x, Value.int .i64 y]) (Value.agg #[Value.int .i64 x, Value.int .i64 y])).run Try.prog w = .ok (.bool false) w := by
  intro w
  go_simp
set_option maxRecDepth 100000 in
set_option maxHeartbeats 800000 in
theorem pSameSpots_same (v u : Value) (n B : Nat) (xs : List Int) (w : World) (hv : Rd w B 2 v n xs) (hu : Rd w B 2 u n xs) (hB : B ≤ w.heap.size) (hn : n ≤ 1099511627776) :
    Calls Try.prog 24 #[v, u] w fun e w' => e = .returned (.bool true) ∧ Below w.heap.size w w' := by
  obtain ⟨A, c, rfl⟩ := hv.form
  obtain ⟨C, d, rfl⟩ := hu.form
  have Hv := Lib.hid hv
  have Hu := Lib.hid hu
  clear hv hu
  have hnn : ((n : Int) != (n : Int)) = false := by simp
  go_enter Try.func24, Try.ntmps24
  go_wp2_with fail
  go_loopw [13] (fun i wr => ∃ k : Nat, k ≤ n ∧ i = .int .i64 k ∧ Below w.heap.size w wr) (fun i _ => n - (intOf i).toNat)
  case atStart => exact ⟨0, Nat.zero_le _, rfl, Below.refl _ _⟩
  case round =>
    obtain ⟨k, hk, rfl, hb⟩ := hrel
    by_cases hlt : k < n
    · obtain ⟨b, off, rfl, hbB, hc⟩ := Hv.out.spot (by omega)
      obtain ⟨b', off', rfl, hbB', hc'⟩ := Hu.out.spot (by omega)
      have c0 := (hb.cell (p := ⟨b, off + k * 2, none⟩) (Nat.lt_of_lt_of_le hbB hB)).trans (hc k hlt).1
      have c1 := (hb.cell (p := ⟨b, off + k * 2 + 1, none⟩) (Nat.lt_of_lt_of_le hbB hB)).trans (hc k hlt).2
      have d0 := (hb.cell (p := ⟨b', off' + k * 2, none⟩) (Nat.lt_of_lt_of_le hbB' hB)).trans (hc' k hlt).1
      have d1 := (hb.cell (p := ⟨b', off' + k * 2 + 1, none⟩) (Nat.lt_of_lt_of_le hbB' hB)).trans (hc' k hlt).2
      obtain ⟨x, ex⟩ : ∃ x, X xs k = x := ⟨_, rfl⟩
      obtain ⟨y, ey⟩ : ∃ y, Y xs k = y := ⟨_, rfl⟩
      rw [ex] at c0 d0
      rw [ey] at c1 d1
      have nq := neq_spots_same x y
      have hk0 : (0 : Int) ≤ (k : Int) := by omega
      have hk1 : (k : Int) < (n : Int) := by omega
      have HB := Lib.hid hb
      clear hc hc' ex ey hb
      go_wp2_with fail
      go_quiet (fail)
      go_wp2_with fail
      go_roundw
      case rel => exact ⟨k + 1, by omega, by go_num, below_drewN HB.out _⟩
      case measure => simp [intOf]; omega
    · have HB := Lib.hid hb
      clear hb
      go_wp2_with fail
      go_ret
      exact ⟨rfl, HB.out⟩
set_option maxRecDepth 100000 in
set_option maxHeartbeats 2000000 in
theorem pSameTransition_same (v u : Value) (B : Nat) (t : TrN) (w : World) (hv : RdT w B v t) (hu : RdT w B u t) (hB : B ≤ w.heap.size) (hs : t.small) :
    Calls Try.prog 13 #[v, u] w fun e w' => e = .returned (.bool true) ∧ Below w.heap.size w w' := by
  obtain ⟨A, ca, C, cb, D, cc, rfl, ha, hb, hc⟩ := hv.form
  obtain ⟨A', ca', C', cb', D', cc', rfl, ha', hb', hc'⟩ := hu.form
  obtain ⟨s1, s2, s3⟩ := hs
  have P1 := Lib.hid (fun W (h : Below w.heap.size w W) => pSameSpots_same _ _ t.n B t.xs W (ha.below' h hB) (ha'.below' h hB) (Nat.le_trans hB h.size) (by omega))
  have P2 := Lib.hid (fun W (h : Below w.heap.size w W) => pSameSpots_same _ _ t.m B t.ys W (hb.below' h hB) (hb'.below' h hB) (Nat.le_trans hB h.size) (by omega))
  have P3 := Lib.hid (fun W (h : Below w.heap.size w W) => sameInts_same _ _ t.p B t.ps W (hc.below' h hB) (hc'.below' h hB) (Nat.le_trans hB h.size) (by omega))
  have K0 := Lib.hid ((Blk.new w 29 #[.slice A t.n ca, .slice C t.m cb, .int .i64 t.c, .slice D t.p cc]).alloc (.cells #[.slice A' t.n ca', .slice C' t.m cb', .int .i64 t.c, .slice D' t.p cc'] 29))
  have K1 := Lib.hid (Blk.new2 w (.cells #[.slice A t.n ca, .slice C t.m cb, .int .i64 t.c, .slice D t.p cc] 29) 29 #[.slice A' t.n ca', .slice C' t.m cb', .int .i64 t.c, .slice D' t.p cc'])
  have HB0 := Lib.hid (below_new (below_new (Below.refl w.heap.size w) (.cells #[.slice A t.n ca, .slice C t.m cb, .int .i64 t.c, .slice D t.p cc] 29)) (.cells #[.slice A' t.n ca', .slice C' t.m cb', .int .i64 t.c, .slice D' t.p cc'] 29))
  have heq : (t.c == t.c) = true := by simp
  obtain ⟨a0, a1, a2, a3⟩ := K0.out.c4
  obtain ⟨b0, b1, b2, b3⟩ := K1.out.c4
  clear ha hb hc ha' hb' hc' hv hu
  go_enter Try.func13, Try.ntmps13
  go_wp2_with fail
  refine (P1.out _ HB0.out).mono ?_
  rintro e w1 ⟨rfl, hb⟩
  replace K0 := Lib.hid (K0.out.on hb)
  replace K1 := Lib.hid (K1.out.on hb)
  replace HB0 := Lib.hid (below_on HB0.out hb)
  clear a0 a1 a2 a3 b0 b1 b2 b3 hb
  obtain ⟨a0, a1, a2, a3⟩ := K0.out.c4
  obtain ⟨b0, b1, b2, b3⟩ := K1.out.c4
  go_wp2_with fail
  refine (P2.out _ HB0.out).mono ?_
  rintro e w2 ⟨rfl, hb⟩
  replace K0 := Lib.hid (K0.out.on hb)
  replace K1 := Lib.hid (K1.out.on hb)
  replace HB0 := Lib.hid (below_on HB0.out hb)
  clear a0 a1 a2 a3 b0 b1 b2 b3 hb
  obtain ⟨a0, a1, a2, a3⟩ := K0.out.c4
  obtain ⟨b0, b1, b2, b3⟩ := K1.out.c4
  go_wp2_with fail
  refine (P3.out _ HB0.out).mono ?_
  rintro e w3 ⟨rfl, hb⟩
  replace HB0 := Lib.hid (below_on HB0.out hb)
  clear a0 a1 a2 a3 b0 b1 b2 b3 hb
  go_wp2_with fail
  go_ret
  exact ⟨rfl, HB0.out⟩
end Go.Proofs.Ytnlneblipedddaa
