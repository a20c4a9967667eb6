/- Contracts of the tests whether a list of spots is a chart and a list of places a matching, in the program and in the reference. Conditions: the slices can be read, and their lengths are at most their capacities. -/
import Derived.Test.YtpikhkdgohapeaaTransFn
import Derived.Test.YtpikhkdgohapeaaEql
import Derived.Test.YtpikhkdgohapeaaBits
import Derived.Test.YtpikhkdgohapeaaTake
import Derived.Test.YtpikhkdgohapeaaLists
import Derived.IntWalk
import Derived.BigQuiet
import Derived.Deep.QuietTactic
namespace Go.Proofs.Ytpikhkdgohapeaa
open Go.RowKit

/-- The first n elements of a slice can be read. -/
def RdP (w : World) (B sz : Nat) (v : Value) (n : Nat) (xs : List Int) : Prop :=
  ∃ A c, v = .slice A n c ∧ (0 < n → ∃ b off, A = some ⟨b, off, none⟩ ∧ b < B ∧ ∀ j, j < n * sz → w.cell? ⟨b, off + j, none⟩ = some (.int .i64 (xs.getD j 0)))
theorem RdP.of {w : World} {B sz : Nat} {A : Option Addr} {n c k : Nat} {xs : List Int} (h : Rd w B sz (.slice A n c) n xs) (hk : k ≤ n) : RdP w B sz (.slice A k c) k xs := by
  obtain ⟨_, A', c', e, h⟩ := h
  simp only [Value.slice.injEq, true_and] at e
  obtain ⟨rfl, rfl⟩ := e
  refine ⟨A, c, rfl, fun hn => ?_⟩
  obtain ⟨b, off, rfl, hb, hc⟩ := h (by omega)
  exact ⟨b, off, rfl, hb, fun j hj => hc j (Nat.lt_of_lt_of_le hj (Nat.mul_le_mul_right _ hk))⟩
theorem RdP.below' {w w' : World} {B C sz n : Nat} {v : Value} {xs : List Int} (h : RdP w B sz v n xs) (hb : Below C w w') (hC : B ≤ C) : RdP w' B sz v n xs := by
  obtain ⟨A, c, e, h⟩ := h
  refine ⟨A, c, e, fun hn => ?_⟩
  obtain ⟨b, off, e2, hbB, hc⟩ := h hn
  exact ⟨b, off, e2, hbB, fun j hj => (hb.cell (p := ⟨b, off + j, none⟩) (Nat.lt_of_lt_of_le hbB hC)).trans (hc j hj)⟩
def hasS (xs : List Int) (n : Nat) (x y : Int) : Bool := (List.range n).any fun j => (X xs j == x) && (Y xs j == y)
theorem hasS_yes {xs : List Int} {n k : Nat} {x y : Int} (hk : k < n) (h1 : X xs k = x) (h2 : Y xs k = y) : hasS xs n x y = true := by
  simp only [hasS, List.any_eq_true, List.mem_range]
  exact ⟨k, hk, by simp [h1, h2]⟩
theorem hasS_no {xs : List Int} {n : Nat} {x y : Int} (h : ∀ j, j < n → ¬ (X xs j = x ∧ Y xs j = y)) : hasS xs n x y = false := by
  cases hh : hasS xs n x y with
  | false => rfl
  | true =>
    simp only [hasS, List.any_eq_true, List.mem_range, Bool.and_eq_true, beq_iff_eq] at hh
    obtain ⟨j, hj, h1⟩ := hh
    exact absurd h1 (h j hj)
def hasI (ps : List Int) (n : Nat) (x : Int) : Bool := (List.range n).any fun j => ps.getD j 0 == x
theorem hasI_yes {xs : List Int} {n k : Nat} {x : Int} (hk : k < n) (h1 : xs.getD k 0 = x) : hasI xs n x = true := by
  simp only [hasI, List.any_eq_true, List.mem_range]
  exact ⟨k, hk, by simp only [h1, beq_self_eq_true]⟩
theorem hasI_no {xs : List Int} {n : Nat} {x : Int} (h : ∀ j, j < n → ¬ xs.getD j 0 = x) : hasI xs n x = false := by
  cases hh : hasI xs n x with
  | false => rfl
  | true =>
    simp only [hasI, List.any_eq_true, List.mem_range, beq_iff_eq] at hh
    obtain ⟨j, hj, h1⟩ := hh
    exact absurd h1 (h j hj)

set_option maxHeartbeats 1000000 in
theorem sIndex_any (v : Value) (n B : Nat) (xs : List Int) (x y : Int) (w : World) (hv : RdP w B 2 v n xs) (hB : B ≤ w.heap.size) (hn : n ≤ 1099511627776) :
    Calls Try.prog 103 #[v, (Value.agg #[Value.int .i64 x, Value.int .i64 y])] w fun e w' => (∃ r : Int, e = .returned (.int .i64 r) ∧ decide (0 ≤ r) = hasS xs n x y) ∧ Below w.heap.size w w' := by
  obtain ⟨A, c, rfl, hA⟩ := hv
  have k0 := Blk.new w 28 #[.int .i64 x, .int .i64 y]
  have hb0 := below_new (Below.refl w.heap.size w) (.cells #[.int .i64 x, .int .i64 y] 28)
  go_enter Try.func103, Try.ntmps103
  go_wp2_with fail
  go_loopw [8] (fun i wr => ∃ k : Nat, k ≤ n ∧ i = .int .i64 k ∧ (∀ j, j < k → ¬ (X xs j = x ∧ Y xs j = y)) ∧ Blk wr w.heap.size 28 #[.int .i64 x, .int .i64 y] ∧ Below w.heap.size w wr) (fun i _ => n - (intOf i).toNat)
  case atStart => exact ⟨0, Nat.zero_le _, rfl, fun j h => absurd h (by omega), k0, hb0⟩
  case round =>
    clear k0 hb0
    obtain ⟨k, hk, rfl, hno, hbk, hb⟩ := hrel
    have HN := Lib.hid hno
    have HK := Lib.hid hbk
    obtain ⟨n0, n1⟩ := hbk.c2
    clear hno hbk
    by_cases hlt : k < n
    · obtain ⟨b, off, rfl, hbB, hc⟩ := hA (by omega)
      have hc0 := hc (k * 2) (by omega)
      have hc1 := hc (k * 2 + 1) (by omega)
      obtain ⟨p, ep⟩ : ∃ p, xs.getD (k * 2) 0 = p := ⟨_, rfl⟩
      obtain ⟨q, eq⟩ : ∃ q, xs.getD (k * 2 + 1) 0 = q := ⟨_, rfl⟩
      rw [ep] at hc0
      rw [eq, ← Nat.add_assoc] at hc1
      have c0 := (hb.cell (p := ⟨b, off + k * 2, none⟩) (Nat.lt_of_lt_of_le hbB hB)).trans hc0
      have c1 := (hb.cell (p := ⟨b, off + k * 2 + 1, none⟩) (Nat.lt_of_lt_of_le hbB hB)).trans hc1
      have EP := Lib.hid ep
      have EQ := Lib.hid eq
      have j0 : (0 : Int) ≤ (k : Int) := by omega
      have j1 : (k : Int) < (n : Int) := by omega
      have HB := Lib.hid hb
      clear hc hA hc0 hc1 ep eq hb
      by_cases heq : x = p ∧ y = q
      · have HY := Lib.hid (hasS_yes (xs := xs) (n := n) (x := x) (y := y) hlt (by show xs.getD (k * 2) 0 = x; rw [EP.out]; exact heq.1.symm) (by show xs.getD (k * 2 + 1) 0 = y; rw [EQ.out]; exact heq.2.symm))
        obtain ⟨rfl, rfl⟩ := heq
        have ey := eql_spots_yes x y
        go_wp2_with fail
        go_quiet (fail)
        go_wp2_with fail
        go_ret
        exact ⟨⟨_, rfl, by rw [HY.out]; simp⟩, below_drewN HB.out _⟩
      · have HF := Lib.hid heq
        have ey := eql_spots_no heq
        clear heq
        go_wp2_with fail
        go_quiet (fail)
        go_wp2_with fail
        go_roundw
        case rel =>
          refine ⟨k + 1, by omega, by go_num, fun j hj => ?_, HK.out.drewN _, below_drewN HB.out _⟩
          rcases Nat.lt_succ_iff_lt_or_eq.1 hj with h | rfl
          · exact HN.out j h
          · intro he
            exact HF.out ⟨he.1.symm.trans EP.out, he.2.symm.trans EQ.out⟩
        case measure => simp [intOf]; omega
    · obtain rfl : k = n := by omega
      have HY := Lib.hid (hasS_no HN.out)
      clear hA
      go_wp2_with fail
      go_ret
      exact ⟨⟨_, rfl, by rw [HY.out]; rfl⟩, hb⟩
set_option maxHeartbeats 1000000 in
theorem sContains_any (v : Value) (n B : Nat) (xs : List Int) (x y : Int) (w : World) (hv : RdP w B 2 v n xs) (hB : B ≤ w.heap.size) (hn : n ≤ 1099511627776) :
    Calls Try.prog 99 #[v, (Value.agg #[Value.int .i64 x, Value.int .i64 y])] w fun e w' => e = .returned (.bool (hasS xs n x y)) ∧ Below w.heap.size w w' := by
  have hb0 := below_new (Below.refl w.heap.size w) (.cells #[.int .i64 x, .int .i64 y] 28)
  have P := Lib.hid (sIndex_any v n B xs x y _ (hv.below' hb0 hB) (Nat.le_trans hB hb0.size) hn)
  have HB := Lib.hid hb0
  obtain ⟨A, c, rfl, hA⟩ := hv
  clear hA hb0
  go_enter Try.func99, Try.ntmps99
  go_wp2_with fail
  refine P.out.mono ?_
  rintro e w1 ⟨⟨r, rfl, hr⟩, hb1⟩
  have HR := Lib.hid hr
  have HB1 := Lib.hid (HB.out.trans (hb1.mono HB.out.size))
  clear hr hb1
  go_wp2_with fail
  go_ret
  exact ⟨by rw [← HR.out]; rfl, HB1.out⟩

set_option maxHeartbeats 1000000 in
theorem l1Has_any (v : Value) (n B : Nat) (xs : List Int) (x : Int) (w : World) (hv : RdP w B 1 v n xs) (hB : B ≤ w.heap.size) (hn : n ≤ 1099511627776) :
    Calls Try.prog 96 #[v, .int .i64 x] w fun e w' => e = .returned (.bool (hasI xs n x)) ∧ w = w' := by
  obtain ⟨A, c, rfl, hA⟩ := hv
  go_enter Try.func96, Try.ntmps96
  go_wp2_with fail
  go_loop [9] (fun i => ∃ k : Nat, k ≤ n ∧ i = .int .i64 k ∧ (∀ j, j < k → ¬ xs.getD j 0 = x)) (fun i => n - (intOf i).toNat)
  case atStart => exact ⟨0, Nat.zero_le _, rfl, fun j h => absurd h (by omega)⟩
  case round =>
    obtain ⟨k, hk, rfl, hno⟩ := hrel
    have HN := Lib.hid hno
    clear hno
    by_cases hlt : k < n
    · obtain ⟨b, off, rfl, hbB, hc⟩ := hA (by omega)
      have hc0 := hc k (by omega)
      obtain ⟨p, ep⟩ : ∃ p, xs.getD k 0 = p := ⟨_, rfl⟩
      rw [ep] at hc0
      have EP := Lib.hid ep
      clear hc hA ep
      by_cases heq : p = x
      · have HY := Lib.hid (hasI_yes (xs := xs) (n := n) (x := x) hlt (EP.out.trans heq))
        subst heq
        go_wp2_with fail
        go_ret
        exact ⟨by rw [HY.out]; rfl, rfl⟩
      · go_wp2_with fail
        go_round
        case rel =>
          refine ⟨k + 1, by omega, by go_num, fun j hj => ?_⟩
          rcases Nat.lt_succ_iff_lt_or_eq.1 hj with h | rfl
          · exact HN.out j h
          · rw [EP.out]; assumption
        case measure => simp [intOf]; omega
    · obtain rfl : k = n := by omega
      have HY := Lib.hid (hasI_no HN.out)
      clear hA
      go_wp2_with fail
      go_ret
      exact ⟨by rw [HY.out]; rfl, rfl⟩
end Go.Proofs.Ytpikhkdgohapeaa
