/- The laws' helpers on slices of ints: toIntS copies, eqIntS says true of two slices that hold the same numbers, markIntS writes k, k+1 and so on, heldIntS finds them again. Conditions: lengths of at most 2^40, and that the slices can be read (or are owned). -/
import Derived.Test.YtpikhkdgohapeaaLists
import Derived.Test.YtpikhkdgohapeaaProg
import Derived.KernelRfl
import Derived.BigQuiet
import Derived.Deep.QuietTactic
namespace Go.Proofs.Ytpikhkdgohapeaa
open Go.RowKit

theorem intInfo : (Try.prog.info? 3).map (fun i => (i.zero, i.size, i.bytes)) = some (some (.int .i64 0), 1, 8) := by kernel_rfl

set_option maxHeartbeats 400000 in
theorem toIntS_any (v : Value) (n B : Nat) (xs : List Int) (w : World) (hr : Rd w B 1 v n xs) (hB : B ≤ w.heap.size) (hn : n ≤ 1099511627776) :
    Calls Try.prog 47 #[v] w fun e w' => ∃ u, e = .returned u ∧ w'.ownsRow w.heap.size 3 1 u n (ints xs) ∧ Below w.heap.size w w' := by
  obtain ⟨hl, A, c, rfl, hA⟩ := hr
  rw [Nat.mul_one] at hl
  have Hl := Lib.hid hl
  clear hl
  obtain ⟨i0, hi, hz0, hz1, hz2⟩ := info_parts intInfo
  have hz2' : i0.bytes * n ≤ 281474976710656 := by rw [hz2]; omega
  go_enter Try.func47, Try.ntmps47
  go_wp2_with (at_make; refine wpList_make_full _ rfl (.tmp 6) (.tmp 6) 36 rfl w.heap.size 3 i0 (.int .i64 0) 1 Try.underlying36 hi hz0 hz1 .i64 .i64 n n n rfl rfl rfl rfl hz2' (by unfold maxLen; omega) (Nat.le_refl _) ?_; intro w1 hown1 hg1)
  rw [Nat.mul_one, madeInts] at hown1
  have hb1 : Below w.heap.size w w1 := (Below.refl _ _).grown hg1 (Nat.le_refl _) (by simp)
  clear hi hz0 hz1 hz2 hz2' hg1
  go_loopw [4] (fun i wr => ∃ k : Nat, k ≤ n ∧ i = .int .i64 k ∧ wr.ownsRow w.heap.size 3 1 (.slice (some ⟨w.heap.size, 0, none⟩) n n) n (ints (filled xs n k)) ∧ Below w.heap.size w wr) (fun i _ => n - (intOf i).toNat)
  case atStart => exact ⟨0, Nat.zero_le _, rfl, by rw [filled_zero]; exact hown1, hb1⟩
  case round =>
    obtain ⟨k, hk, rfl, hown, hb⟩ := hrel
    clear hown1 hb1
    by_cases hlt : k < n
    · obtain ⟨b, off, rfl, hbB, hc⟩ := hA (by omega)
      have hcell : wr.cell? ⟨b, off + k, none⟩ = some (.int .i64 (xs.getD k 0)) := (hb.cell (p := ⟨b, off + k, none⟩) (Nat.lt_of_lt_of_le hbB hB)).trans (hc k (by omega))
      have hfl : (filled xs n k).length = n := by have := Hl.out; simp [filled]; omega
      have hst : wr.cell? ⟨w.heap.size, k, none⟩ = some (.int .i64 ((filled xs n k).getD k 0)) := (hown.cellAt k (by omega)).trans (ints_get _ _ (by omega))
      have hfr : wr.frozen? ⟨w.heap.size, k, none⟩ = false := hown.frozenAt k
      have hown2 := (hown.stored k (.int .i64 (xs.getD k 0))).1
      rw [ints_set, filled_set xs n k Hl.out hlt] at hown2
      have hb2 := hb.setCell (p := ⟨w.heap.size, k, none⟩) (Nat.le_refl _) (.int .i64 (xs.getD k 0))
      have HO := Lib.hid hown2
      clear hown2 hown hc hA hfl
      go_wp2
      go_roundw
      case rel => exact ⟨k + 1, by omega, by go_num, HO.out, hb2⟩
      case measure => simp [intOf]; omega
    · have hkn : k = n := by omega
      have hown2 : wr.ownsRow w.heap.size 3 1 (.slice (some ⟨w.heap.size, 0, none⟩) n n) n (ints xs) := by
        rw [hkn, filled_all xs n Hl.out] at hown; exact hown
      clear hkn hown hA
      go_wp2
      go_ret
      exact ⟨_, rfl, hown2, hb⟩

set_option maxHeartbeats 400000 in
theorem eqIntS_same (v u : Value) (n B : Nat) (xs : List Int) (w : World) (hv : Rd w B 1 v n xs) (hu : Rd w B 1 u n xs) (hB : B ≤ w.heap.size) (hn : n ≤ 1099511627776) :
    Calls Try.prog 23 #[v, u] w fun e w' => e = .returned (.bool true) ∧ Below w.heap.size w w' := by
  obtain ⟨_, A, c, rfl, hA⟩ := hv
  obtain ⟨_, C, d, rfl, hC⟩ := hu
  have hnn : ((n : Int) != (n : Int)) = false := by simp
  go_enter Try.func23, Try.ntmps23
  go_wp2
  go_loopw [5] (fun i wr => ∃ k : Nat, k ≤ n ∧ i = .int .i64 k ∧ Below w.heap.size w wr) (fun i _ => n - (intOf i).toNat)
  case atStart => exact ⟨0, Nat.zero_le _, rfl, Below.refl _ _⟩
  case round =>
    obtain ⟨k, hk, rfl, hb⟩ := hrel
    by_cases hlt : k < n
    · obtain ⟨b, off, rfl, hbB, hc⟩ := hA (by omega)
      obtain ⟨b', off', rfl, hbB', hc'⟩ := hC (by omega)
      have hcell : wr.cell? ⟨b, off + k, none⟩ = some (.int .i64 (xs.getD k 0)) := (hb.cell (p := ⟨b, off + k, none⟩) (Nat.lt_of_lt_of_le hbB hB)).trans (hc k (by omega))
      have hcell' : wr.cell? ⟨b', off' + k, none⟩ = some (.int .i64 (xs.getD k 0)) := (hb.cell (p := ⟨b', off' + k, none⟩) (Nat.lt_of_lt_of_le hbB' hB)).trans (hc' k (by omega))
      obtain ⟨x, hx⟩ : ∃ x, xs.getD k 0 = x := ⟨_, rfl⟩
      rw [hx] at hcell hcell'
      have hxx : (x != x) = false := by simp
      clear hc hc' hA hC hx
      go_wp2
      go_quiet (fail)
      go_wp2
      go_roundw
      case rel => exact ⟨k + 1, by omega, by go_num, below_drewN hb _⟩
      case measure => simp [intOf]; omega
    · clear hA hC
      go_wp2
      go_ret
      exact ⟨rfl, hb⟩

set_option maxHeartbeats 400000 in
theorem markIntS_any (v : Value) (n base : Nat) (vs : List Value) (k : Int) (w : World) (hown : w.ownsRow base 3 1 v n vs) (hk0 : 0 ≤ k) (hk : k ≤ 1099511627776) (hn : n ≤ 1099511627776) :
    Calls Try.prog 25 #[v, .int .i64 k] w fun e w' => e = .returned (.int .i64 (k + (n : Int))) ∧ w'.ownsRow base 3 1 v n (ints (marks n k)) ∧ w.grownBy w' v.ownBlock := by
  have hlen : vs.length = n := by have := hown.1; omega
  have Hl := Lib.hid hlen
  clear hlen
  obtain ⟨A, c, rfl, hA⟩ : ∃ A c, v = .slice A n c ∧ (0 < n → ∃ g, A = some ⟨g, 0, none⟩) := by
    rcases hown.2 with ⟨rfl, rfl⟩ | ⟨g, cap, cur, rfl, _⟩
    · exact ⟨none, 0, rfl, fun h => absurd h (by omega)⟩
    · exact ⟨_, cap, rfl, fun _ => ⟨g, rfl⟩⟩
  go_enter Try.func25, Try.ntmps25
  go_wp2
  go_loopw [1, 5] (fun q i wr => ∃ j : Nat, j ≤ n ∧ i = .int .i64 j ∧ q = .int .i64 (k + (j : Int)) ∧ wr.ownsRow base 3 1 (.slice A n c) n (marked vs k j) ∧ w.grownBy wr (Value.slice A n c).ownBlock) (fun _ i _ => n - (intOf i).toNat)
  case atStart => exact ⟨0, Nat.zero_le _, rfl, by simp, by rw [marked_zero]; exact hown, World.grownBy.refl _ _⟩
  case round =>
    obtain ⟨j, hj, rfl, rfl, hown, hg⟩ := hrel
    by_cases hlt : j < n
    · obtain ⟨g, rfl⟩ := hA (by omega)
      have hst := hown.cellAt j (by omega)
      have hjl : j < (marked vs k j).length := by have := Hl.out; rw [marked_length _ _ _ (by omega)]; omega
      rw [List.getElem?_eq_getElem hjl] at hst
      obtain ⟨x, hx⟩ : ∃ x, (marked vs k j)[j] = x := ⟨_, rfl⟩
      rw [hx] at hst
      have hfr : wr.frozen? ⟨g, j, none⟩ = false := hown.frozenAt j
      obtain ⟨hown2, hg2⟩ := hown.stored j (.int .i64 (k + (j : Int)))
      rw [marked_set vs k j (by have := Hl.out; omega)] at hown2
      have hg3 : w.grownBy (wr.setCell ⟨g, j, none⟩ (.int .i64 (k + (j : Int)))) (some g) :=
        ⟨hg2.os.trans hg.os, hg2.tape.trans hg.tape, hg2.output.trans hg.output, Nat.le_trans hg.size hg2.size, fun i hi hne => (hg2.block i (Nat.lt_of_lt_of_le hi hg.size) hne).trans (hg.block i hi hne)⟩
      have HO := Lib.hid hown2
      have HG := Lib.hid hg3
      clear hown2 hown hA hjl hx hg hg2 hg3
      go_wp2
      go_roundw
      case rel => exact ⟨j + 1, by omega, by go_num, by go_num, HO.out, HG.out⟩
      case measure => simp [intOf]; omega
    · have hjn : j = n := by omega
      have hown2 : wr.ownsRow base 3 1 (.slice A n c) n (ints (marks n k)) := by rw [hjn, marked_all vs k n Hl.out] at hown; exact hown
      subst hjn
      clear hown hA
      go_wp2
      go_ret
      exact ⟨rfl, hown2, hg⟩

set_option maxHeartbeats 400000 in
theorem heldIntS_marks (v : Value) (n B : Nat) (k : Int) (w : World) (hv : Rd w B 1 v n (marks n k)) (hk0 : 0 ≤ k) (hk : k ≤ 1099511627776) (hn : n ≤ 1099511627776) :
    Calls Try.prog 26 #[v, .int .i64 k] w fun e w' => e = .returned (.int .i64 (k + (n : Int))) ∧ w = w' := by
  obtain ⟨_, A, c, rfl, hA⟩ := hv
  go_enter Try.func26, Try.ntmps26
  go_wp2
  go_loop [1, 5] (fun q i => ∃ j : Nat, j ≤ n ∧ i = .int .i64 j ∧ q = .int .i64 (k + (j : Int))) (fun _ i => n - (intOf i).toNat)
  case atStart => exact ⟨0, Nat.zero_le _, rfl, by simp⟩
  case round =>
    obtain ⟨j, hj, rfl, rfl⟩ := hrel
    by_cases hlt : j < n
    · obtain ⟨b, off, rfl, hbB, hc⟩ := hA (by omega)
      have hcell := hc j (by omega)
      rw [marks_get n k j hlt] at hcell
      have hxx : ((k + (j : Int)) != (k + (j : Int))) = false := by simp
      clear hc hA
      go_wp2
      go_round
      case rel => exact ⟨j + 1, by omega, by go_num, by go_num⟩
      case measure => simp [intOf]; omega
    · obtain rfl : j = n := by omega
      clear hA
      go_wp2
      go_ret
      exact ⟨rfl, rfl⟩

end Go.Proofs.Ytpikhkdgohapeaa
