/- The laws' helpers on slices of ints: toIntS copies, eqIntS says true of two slices that hold the same numbers, markIntS writes k, k+1 and so on, heldIntS finds them again. Conditions: lengths of at most 2^40, and that the slices can be read (or are owned). -/
import Derived.Test.YtmnngoioahnlnaaLists
import Derived.Test.YtmnngoioahnlnaaProg
import Derived.KernelRfl
import Derived.BigQuiet
import Derived.Deep.QuietTactic
namespace Go.Proofs.Ytmnngoioahnlnaa
open Go.RowKit

theorem intInfo : (Try.prog.info? 3).map (fun i => (i.zero, i.size, i.bytes)) = some (some (.int .i64 0), 1, 8) := by kernel_rfl

set_option maxHeartbeats 400000 in
theorem toIntS_any (v : Value) (n B : Nat) (xs : List Int) (w : World) (hr : Rd w B 1 v n xs) (hB : B ≤ w.heap.size) (hn : n ≤ 1099511627776) :
    Calls Try.prog 27 #[v] w fun e w' => ∃ u, e = .returned u ∧ w'.ownsRow w.heap.size 3 1 u n (ints xs) ∧ Below w.heap.size w w' := by
  obtain ⟨hl, A, c, rfl, hA⟩ := hr
  rw [Nat.mul_one] at hl
  have Hl := Lib.hid hl
  clear hl
  obtain ⟨i0, hi, hz0, hz1, hz2⟩ := info_parts intInfo
  have hz2' : i0.bytes * n ≤ 281474976710656 := by rw [hz2]; omega
  go_enter Try.func27, Try.ntmps27
  go_wp2_with (at_make; refine wpList_make_full _ rfl (.tmp 6) (.tmp 6) 34 rfl w.heap.size 3 i0 (.int .i64 0) 1 Try.underlying34 hi hz0 hz1 .i64 .i64 n n n rfl rfl rfl rfl hz2' (by unfold maxLen; omega) (Nat.le_refl _) ?_; intro w1 hown1 hg1)
  rw [Nat.mul_one, madeInts] at hown1
  have hb1 : Below w.heap.size w w1 := (Below.refl _ _).grown hg1 (Nat.le_refl _) (by simp)
  clear hi hz0 hz1 hz2 hz2' hg1
  go_loopw [4] (fun i wr => ∃ k : Nat, k ≤ n ∧ i = .int .i64 k ∧ wr.ownsRow w.heap.size 3 1 (.slice (some ⟨w.heap.size, 0, none⟩) n n) n (ints (filled xs n k)) ∧ Below w.heap.size w wr) (fun i _ => n - (intOf i).toNat)
  case atStart => exact ⟨0, Nat.zero_le _, rfl, by rw [filled_zero]; exact hown1, hb1⟩
  case round =>
    obtain ⟨k, hk, rfl, hown, hb⟩ := hrel
    clear hown1 hb1
    by_cases hlt : k < n
    · obtain ⟨b, off, rfl, hbB, hc⟩ := hA (by omega)
      have hcell : wr.cell? ⟨b, off + k, none⟩ = some (.int .i64 (xs.getD k 0)) := (hb.cell (p := ⟨b, off + k, none⟩) (Nat.lt_of_lt_of_le hbB hB)).trans (hc k (by omega))
      have hfl : (filled xs n k).length = n := by have := Hl.out; simp [filled]; omega
      have hst : wr.cell? ⟨w.heap.size, k, none⟩ = some (.int .i64 ((filled xs n k).getD k 0)) := (hown.cellAt k (by omega)).trans (ints_get _ _ (by omega))
      have hfr : wr.frozen? ⟨w.heap.size, k, none⟩ = false := hown.frozenAt k
      have hown2 := (hown.stored k (.int .i64 (xs.getD k 0))).1
      rw [ints_set, filled_set xs n k Hl.out hlt] at hown2
      have hb2 := hb.setCell (p := ⟨w.heap.size, k, none⟩) (Nat.le_refl _) (.int .i64 (xs.getD k 0))
      have HO := Lib.hid hown2
      clear hown2 hown hc hA hfl
      go_wp2
      go_roundw
      case rel => exact ⟨k + 1, by omega, by go_num, HO.out, hb2⟩
      case measure => simp [intOf]; omega
    · have hkn : k = n := by omega
      have hown2 : wr.ownsRow w.heap.size 3 1 (.slice (some ⟨w.heap.size, 0, none⟩) n n) n (ints xs) := by
        rw [hkn, filled_all xs n Hl.out] at hown; exact hown
      clear hkn hown hA
      go_wp2
      go_ret
      exact ⟨_, rfl, hown2, hb⟩

set_option maxHeartbeats 400000 in
theorem eqIntS_same (v u : Value) (n B : Nat) (xs : List Int) (w : World) (hv : Rd w B 1 v n xs) (hu : Rd w B 1 u n xs) (hB : B ≤ w.heap.size) (hn : n ≤ 1099511627776) :
    Calls Try.prog 33 #[v, u] w fun e w' => e = .returned (.bool true) ∧ Below w.heap.size w w' := by
  obtain ⟨_, A, c, rfl, hA⟩ := hv
  obtain ⟨_, C, d, rfl, hC⟩ := hu
  have hnn : ((n : Int) != (n : Int)) = false := by simp
  go_enter Try.func33, Try.ntmps33
  go_wp2
  go_loopw [5] (fun i wr => ∃ k : Nat, k ≤ n ∧ i = .int .i64 k ∧ Below w.heap.size w wr) (fun i _ => n - (intOf i).toNat)
  case atStart => exact ⟨0, Nat.zero_le _, rfl, Below.refl _ _⟩
  case round =>
    obtain ⟨k, hk, rfl, hb⟩ := hrel
    by_cases hlt : k < n
    · obtain ⟨b, off, rfl, hbB, hc⟩ := hA (by omega)
      obtain ⟨b', off', rfl, hbB', hc'⟩ := hC (by omega)
      have hcell : wr.cell? ⟨b, off + k, none⟩ = some (.int .i64 (xs.getD k 0)) := (hb.cell (p := ⟨b, off + k, none⟩) (Nat.lt_of_lt_of_le hbB hB)).trans (hc k (by omega))
      have hcell' : wr.cell? ⟨b', off' + k, none⟩ = some (.int .i64 (xs.getD k 0)) := (hb.cell (p := ⟨b', off' + k, none⟩) (Nat.lt_of_lt_of_le hbB' hB)).trans (hc' k (by omega))
      obtain ⟨x, hx⟩ : ∃ x, xs.getD k 0 = x := ⟨_, rfl⟩
      rw [hx] at hcell hcell'
      have hxx : (x != x) = false := by simp
      clear hc hc' hA hC hx
      go_wp2
      go_quiet (fail)
      go_wp2
      go_roundw
      case rel => exact ⟨k + 1, by omega, by go_num, below_drewN hb _⟩
      case measure => simp [intOf]; omega
    · clear hA hC
      go_wp2
      go_ret
      exact ⟨rfl, hb⟩

end Go.Proofs.Ytmnngoioahnlnaa
