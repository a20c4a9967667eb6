/- The laws' helpers on slices of carries: toCarryS copies, eqCarryS says true of two slices that hold the same numbers, markCarryS writes k, k+1 and so on, heldCarryS finds them again. Conditions: lengths of at most 2^40, and that the slices can be read (or are owned). -/
import Derived.Test.YtamehlafmfmgmaaDoorLists
import Derived.Test.YtamehlafmfmgmaaDoorProg
import Derived.KernelRfl
import Derived.Deep.RegionHeld3
namespace Go.Proofs.YtamehlafmfmgmaaDoor
open Go.RowKit

theorem carryInfo : (Tryd.prog.info? 50).map (fun i => (i.zero, i.size, i.bytes)) = some (some (Value.agg #[Value.int .i64 0, Value.int .i64 0, Value.int .i64 0, Value.int .i64 0]), 4, 32) := by kernel_rfl
theorem madeCarries (m : Nat) : (madeCells (Value.cells (Value.agg #[Value.int .i64 0, Value.int .i64 0, Value.int .i64 0, Value.int .i64 0])) (m * 4)).toList = ints (List.replicate (m * 4) 0) := by
  show (madeCells #[Value.int .i64 0, Value.int .i64 0, Value.int .i64 0, Value.int .i64 0] (m * 4)).toList = _
  apply List.ext_getElem?
  intro j
  by_cases hj : j < m * 4
  · have h4 : j % 4 = 0 ∨ j % 4 = 1 ∨ j % 4 = 2 ∨ j % 4 = 3 := by omega
    rcases h4 with h | h | h | h <;> simp [madeCells, hj, ints, h]
  · simp [madeCells, hj, ints]
theorem toCarry_exact (x y z u : Int) (w : World) : Calls Tryd.prog 28 #[(Value.agg #[Value.int .i64 x, Value.int .i64 y, Value.int .i64 z, Value.int .i64 u])] w fun e w' => e = .returned (Value.agg #[Value.int .i64 x, Value.int .i64 y, Value.int .i64 z, Value.int .i64 u]) ∧
    w' = ((w.alloc (.cells #[.int .i64 x, .int .i64 y, .int .i64 z, .int .i64 u] 54)).alloc (.cells #[.int .i64 x, .int .i64 y, .int .i64 z, .int .i64 u] 50)).alloc (.cells #[.int .i64 x, .int .i64 y, .int .i64 z, .int .i64 u] 50) := by
  go_enter Tryd.func28, Tryd.ntmps28
  go_wp2
  exact bodyPost_ret (v := (Value.agg #[Value.int .i64 x, Value.int .i64 y, Value.int .i64 z, Value.int .i64 u])) (by simp [results, Tryd.results28, go_sem]) rfl ⟨rfl, rfl⟩
theorem toCarry_any (x y z u : Int) (w : World) : Calls Tryd.prog 28 #[(Value.agg #[Value.int .i64 x, Value.int .i64 y, Value.int .i64 z, Value.int .i64 u])] w fun e w' => e = .returned (Value.agg #[Value.int .i64 x, Value.int .i64 y, Value.int .i64 z, Value.int .i64 u]) ∧ Below w.heap.size w w' :=
  (toCarry_exact x y z u w).mono fun _ _ ⟨h1, h2⟩ => ⟨h1, by rw [h2]; exact (((Below.refl _ _).alloc (Nat.le_refl _) _).alloc (by simp) _).alloc (by simp; omega) _⟩

set_option maxHeartbeats 1600000 in
theorem toCarryS_any (v : Value) (n B : Nat) (xs : List Int) (w : World) (hr : Rd w B 4 v n xs) (hB : B ≤ w.heap.size) (hn : n ≤ 1099511627776) :
    Calls Tryd.prog 7 #[v] w fun e w' => ∃ u, e = .returned u ∧ w'.ownsRow w.heap.size 50 4 u n (ints xs) ∧ Below w.heap.size w w' := by
  obtain ⟨hl, A, c, rfl, hA⟩ := hr
  have Hl := Lib.hid hl
  clear hl
  obtain ⟨i0, hi, hz0, hz1, hz2⟩ := info_parts carryInfo
  have hz2' : i0.bytes * n ≤ 281474976710656 := by rw [hz2]; omega
  go_enter Tryd.func7, Tryd.ntmps7
  go_wp2_with (at_make; refine wpList_make_full _ rfl (.tmp 6) (.tmp 6) 26 rfl w.heap.size 50 i0 (Value.agg #[Value.int .i64 0, Value.int .i64 0, Value.int .i64 0, Value.int .i64 0]) 4 Tryd.underlying26 hi hz0 hz1 .i64 .i64 n n n rfl rfl rfl rfl hz2' (by unfold maxLen; omega) (Nat.le_refl _) ?_; intro w1 hown1 hg1)
  rw [madeCarries] at hown1
  have hb1 : Below w.heap.size w w1 := (Below.refl _ _).grown hg1 (Nat.le_refl _) (by simp)
  clear hi hz0 hz1 hz2 hz2' hg1
  go_loopw [4] (fun i wr => ∃ k : Nat, k ≤ n ∧ i = .int .i64 k ∧ wr.ownsRow w.heap.size 50 4 (.slice (some ⟨w.heap.size, 0, none⟩) n n) n (ints (filled xs (n * 4) (k * 4))) ∧ Below w.heap.size w wr) (fun i _ => n - (intOf i).toNat)
  case atStart => exact ⟨0, Nat.zero_le _, rfl, by rw [Nat.zero_mul, filled_zero]; exact hown1, hb1⟩
  case round =>
    obtain ⟨k, hk, rfl, hown, hb⟩ := hrel
    clear hown1 hb1
    by_cases hlt : k < n
    · obtain ⟨b, off, rfl, hbB, hc⟩ := hA (by omega)
      have hx := (hb.cell (p := ⟨b, off + k * 4, none⟩) (Nat.lt_of_lt_of_le hbB hB)).trans (hc (k * 4) (by omega))
      have hy := (hb.cell (p := ⟨b, off + (k * 4 + 1), none⟩) (Nat.lt_of_lt_of_le hbB hB)).trans (hc (k * 4 + 1) (by omega))
      have hz := (hb.cell (p := ⟨b, off + (k * 4 + 2), none⟩) (Nat.lt_of_lt_of_le hbB hB)).trans (hc (k * 4 + 2) (by omega))
      have hu := (hb.cell (p := ⟨b, off + (k * 4 + 3), none⟩) (Nat.lt_of_lt_of_le hbB hB)).trans (hc (k * 4 + 3) (by omega))
      rw [← Nat.add_assoc] at hy hz hu
      obtain ⟨x, ex⟩ : ∃ a, xs.getD (k * 4) 0 = a := ⟨_, rfl⟩
      rw [ex] at hx
      have Ex := Lib.hid ex
      obtain ⟨y, ey⟩ : ∃ a, xs.getD (k * 4 + 1) 0 = a := ⟨_, rfl⟩
      rw [ey] at hy
      have Ey := Lib.hid ey
      obtain ⟨z, ez⟩ : ∃ a, xs.getD (k * 4 + 2) 0 = a := ⟨_, rfl⟩
      rw [ez] at hz
      have Ez := Lib.hid ez
      obtain ⟨u, eu⟩ : ∃ a, xs.getD (k * 4 + 3) 0 = a := ⟨_, rfl⟩
      rw [eu] at hu
      have Eu := Lib.hid eu
      have HO := Lib.hid hown
      have HB := Lib.hid hb
      clear ex ey ez eu hown hb hc hA
      go_wp2_with fail
      refine (toCarry_any _ _ _ _ _).mono ?_
      rintro e w2 ⟨rfl, hb2⟩
      have hown := own_below HO.out hb2 (Nat.le_refl _)
      have hb := below_on HB.out hb2
      have hfl : (filled xs (n * 4) (k * 4)).length = n * 4 := by have := Hl.out; simp [filled]; omega
      have s0 : w2.cell? ⟨w.heap.size, k * 4, none⟩ = some (.int .i64 ((filled xs (n * 4) (k * 4)).getD (k * 4) 0)) := (hown.cellAt (k * 4) (by omega)).trans (ints_get _ _ (by omega))
      have f0 : w2.frozen? ⟨w.heap.size, k * 4, none⟩ = false := hown.frozenAt _
      have s1 : w2.cell? ⟨w.heap.size, k * 4 + 1, none⟩ = some (.int .i64 ((filled xs (n * 4) (k * 4)).getD (k * 4 + 1) 0)) := (hown.cellAt (k * 4 + 1) (by omega)).trans (ints_get _ _ (by omega))
      have f1 : w2.frozen? ⟨w.heap.size, k * 4 + 1, none⟩ = false := hown.frozenAt _
      have s2 : w2.cell? ⟨w.heap.size, k * 4 + 2, none⟩ = some (.int .i64 ((filled xs (n * 4) (k * 4)).getD (k * 4 + 2) 0)) := (hown.cellAt (k * 4 + 2) (by omega)).trans (ints_get _ _ (by omega))
      have f2 : w2.frozen? ⟨w.heap.size, k * 4 + 2, none⟩ = false := hown.frozenAt _
      have s3 : w2.cell? ⟨w.heap.size, k * 4 + 3, none⟩ = some (.int .i64 ((filled xs (n * 4) (k * 4)).getD (k * 4 + 3) 0)) := (hown.cellAt (k * 4 + 3) (by omega)).trans (ints_get _ _ (by omega))
      have f3 : w2.frozen? ⟨w.heap.size, k * 4 + 3, none⟩ = false := hown.frozenAt _
      have hown2 := (((((hown.stored (k * 4) (.int .i64 x)).1).stored (k * 4 + 1) (.int .i64 y)).1.stored (k * 4 + 2) (.int .i64 z)).1.stored (k * 4 + 3) (.int .i64 u)).1
      have e0 : (filled xs (n * 4) (k * 4)).set (k * 4) x = filled xs (n * 4) (k * 4 + 1) := by rw [← Ex.out]; exact filled_set xs (n * 4) (k * 4) Hl.out (by omega)
      have e1 : (filled xs (n * 4) (k * 4 + 1)).set (k * 4 + 1) y = filled xs (n * 4) (k * 4 + 2) := by rw [← Ey.out]; exact filled_set xs (n * 4) (k * 4 + 1) Hl.out (by omega)
      have e2 : (filled xs (n * 4) (k * 4 + 2)).set (k * 4 + 2) z = filled xs (n * 4) (k * 4 + 3) := by rw [← Ez.out]; exact filled_set xs (n * 4) (k * 4 + 2) Hl.out (by omega)
      have e3 : (filled xs (n * 4) (k * 4 + 3)).set (k * 4 + 3) u = filled xs (n * 4) ((k + 1) * 4) := by rw [← Eu.out, Nat.succ_mul]; exact filled_set xs (n * 4) (k * 4 + 3) Hl.out (by omega)
      rw [ints_set, e0, ints_set, e1, ints_set, e2, ints_set, e3] at hown2
      have hb3 := (((hb.setCell (p := ⟨w.heap.size, k * 4, none⟩) (Nat.le_refl _) (.int .i64 x)).setCell (p := ⟨w.heap.size, k * 4 + 1, none⟩) (Nat.le_refl _) (.int .i64 y)).setCell (p := ⟨w.heap.size, k * 4 + 2, none⟩) (Nat.le_refl _) (.int .i64 z)).setCell (p := ⟨w.heap.size, k * 4 + 3, none⟩) (Nat.le_refl _) (.int .i64 u)
      have HO2 := Lib.hid hown2
      have HB2 := Lib.hid hb3
      clear hown2 hown hb hb3 hfl e0 e1 e2 e3 hb2 HO HB
      go_wp2
      go_roundw
      case rel => exact ⟨k + 1, by omega, by go_num, HO2.out, HB2.out⟩
      case measure => simp [intOf]; omega
    · have hkn : k = n := by omega
      have hown2 : wr.ownsRow w.heap.size 50 4 (.slice (some ⟨w.heap.size, 0, none⟩) n n) n (ints xs) := by
        rw [hkn, filled_all xs (n * 4) Hl.out] at hown; exact hown
      clear hkn hown hA
      go_wp2
      go_ret
      exact ⟨_, rfl, hown2, hb⟩

theorem eqCarry_same (x y z u : Int) (w : World) : Calls Tryd.prog 32 #[(Value.agg #[Value.int .i64 x, Value.int .i64 y, Value.int .i64 z, Value.int .i64 u]), (Value.agg #[Value.int .i64 x, Value.int .i64 y, Value.int .i64 z, Value.int .i64 u])] w fun e w' => e = .returned (.bool true) ∧ Below w.heap.size w w' := by
  have h1 : (x != x) = false := by simp
  have h2 : (y != y) = false := by simp
  have h3 : (z != z) = false := by simp
  have h4 : (u != u) = false := by simp
  go_enter Tryd.func32, Tryd.ntmps32
  go_wp2
  go_ret
  exact ⟨rfl, ((Below.refl _ _).alloc (Nat.le_refl _) _).alloc (by simp) _⟩

set_option maxHeartbeats 1600000 in
theorem eqCarryS_same (v u : Value) (n B : Nat) (xs : List Int) (w : World) (hv : Rd w B 4 v n xs) (hu : Rd w B 4 u n xs) (hB : B ≤ w.heap.size) (hn : n ≤ 1099511627776) :
    Calls Tryd.prog 9 #[v, u] w fun e w' => e = .returned (.bool true) ∧ Below w.heap.size w w' := by
  obtain ⟨_, A, c, rfl, hA⟩ := hv
  obtain ⟨_, C, d, rfl, hC⟩ := hu
  have hnn : ((n : Int) != (n : Int)) = false := by simp
  go_enter Tryd.func9, Tryd.ntmps9
  go_wp2_with fail
  go_loopw [5] (fun i wr => ∃ k : Nat, k ≤ n ∧ i = .int .i64 k ∧ Below w.heap.size w wr) (fun i _ => n - (intOf i).toNat)
  case atStart => exact ⟨0, Nat.zero_le _, rfl, Below.refl _ _⟩
  case round =>
    obtain ⟨k, hk, rfl, hb⟩ := hrel
    by_cases hlt : k < n
    · obtain ⟨b, off, rfl, hbB, hc⟩ := hA (by omega)
      obtain ⟨b', off', rfl, hbB', hc'⟩ := hC (by omega)
      have c0 := (hb.cell (p := ⟨b, off + k * 4, none⟩) (Nat.lt_of_lt_of_le hbB hB)).trans (hc (k * 4) (by omega))
      have d0 := (hb.cell (p := ⟨b', off' + k * 4, none⟩) (Nat.lt_of_lt_of_le hbB' hB)).trans (hc' (k * 4) (by omega))
      have c1 := (hb.cell (p := ⟨b, off + (k * 4 + 1), none⟩) (Nat.lt_of_lt_of_le hbB hB)).trans (hc (k * 4 + 1) (by omega))
      have d1 := (hb.cell (p := ⟨b', off' + (k * 4 + 1), none⟩) (Nat.lt_of_lt_of_le hbB' hB)).trans (hc' (k * 4 + 1) (by omega))
      have c2 := (hb.cell (p := ⟨b, off + (k * 4 + 2), none⟩) (Nat.lt_of_lt_of_le hbB hB)).trans (hc (k * 4 + 2) (by omega))
      have d2 := (hb.cell (p := ⟨b', off' + (k * 4 + 2), none⟩) (Nat.lt_of_lt_of_le hbB' hB)).trans (hc' (k * 4 + 2) (by omega))
      have c3 := (hb.cell (p := ⟨b, off + (k * 4 + 3), none⟩) (Nat.lt_of_lt_of_le hbB hB)).trans (hc (k * 4 + 3) (by omega))
      have d3 := (hb.cell (p := ⟨b', off' + (k * 4 + 3), none⟩) (Nat.lt_of_lt_of_le hbB' hB)).trans (hc' (k * 4 + 3) (by omega))
      rw [← Nat.add_assoc] at c1 d1 c2 d2 c3 d3
      obtain ⟨x, ex⟩ : ∃ a, xs.getD (k * 4) 0 = a := ⟨_, rfl⟩
      rw [ex] at c0 d0
      obtain ⟨y, ey⟩ : ∃ a, xs.getD (k * 4 + 1) 0 = a := ⟨_, rfl⟩
      rw [ey] at c1 d1
      obtain ⟨z, ez⟩ : ∃ a, xs.getD (k * 4 + 2) 0 = a := ⟨_, rfl⟩
      rw [ez] at c2 d2
      obtain ⟨u, eu⟩ : ∃ a, xs.getD (k * 4 + 3) 0 = a := ⟨_, rfl⟩
      rw [eu] at c3 d3
      have hk0 : (0 : Int) ≤ (k : Int) := by omega
      have hk1 : (k : Int) < (n : Int) := by omega
      clear hc hc' hA hC ex ey ez eu
      go_wp2_with fail
      go_region_held3 (fun W => W.cell? ⟨b, off + k * 4, none⟩ = some (.int .i64 x) ∧ W.cell? ⟨b, off + k * 4 + 1, none⟩ = some (.int .i64 y) ∧ W.cell? ⟨b, off + k * 4 + 2, none⟩ = some (.int .i64 z) ∧ W.cell? ⟨b, off + k * 4 + 3, none⟩ = some (.int .i64 u) ∧ W.cell? ⟨b', off' + k * 4, none⟩ = some (.int .i64 x) ∧ W.cell? ⟨b', off' + k * 4 + 1, none⟩ = some (.int .i64 y) ∧ W.cell? ⟨b', off' + k * 4 + 2, none⟩ = some (.int .i64 z) ∧ W.cell? ⟨b', off' + k * 4 + 3, none⟩ = some (.int .i64 u) ∧ Below w.heap.size w W)
        (first | exact ⟨c0, c1, c2, c3, d0, d1, d2, d3, hb.drew⟩ | (go_split_ands; exact ⟨cell_on hb2 (by assumption), cell_on hb2 (by assumption), cell_on hb2 (by assumption), cell_on hb2 (by assumption), cell_on hb2 (by assumption), cell_on hb2 (by assumption), cell_on hb2 (by assumption), cell_on hb2 (by assumption), below_on (by assumption) hb2⟩) | go_keep)
        (first | (go_at_call 32; refine (eqCarry_same x y z u _).mono ?_; rintro e w2 ⟨rfl, hb2⟩))
      go_split_ands
      rename_i hb9
      have HB := Lib.hid hb9
      clear c0 c1 c2 c3 d0 d1 d2 d3 hb hb9
      go_wp2_with fail
      go_roundw
      case rel => exact ⟨k + 1, by omega, by go_num, HB.out⟩
      case measure => simp [intOf]; omega
    · clear hA hC
      go_wp2_with fail
      go_ret
      exact ⟨rfl, hb⟩

end Go.Proofs.YtamehlafmfmgmaaDoor
