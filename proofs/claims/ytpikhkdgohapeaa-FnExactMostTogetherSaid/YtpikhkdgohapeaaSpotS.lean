/- The laws' helpers on slices of spots: toSpotS copies, eqSpotS says true of two slices that hold the same numbers, markSpotS writes k, k+1 and so on, heldSpotS finds them again. Conditions: lengths of at most 2^40, and that the slices can be read (or are owned). -/
import Derived.Test.YtpikhkdgohapeaaLists
import Derived.Test.YtpikhkdgohapeaaSpot
import Derived.Test.YtpikhkdgohapeaaToSpot
import Derived.Deep.RegionHeld3
namespace Go.Proofs.Ytpikhkdgohapeaa
open Go.RowKit

theorem spotInfo : (Try.prog.info? 28).map (fun i => (i.zero, i.size, i.bytes)) = some (some (Value.agg #[Value.int .i64 0, Value.int .i64 0]), 2, 16) := by kernel_rfl
theorem madeSpots (m : Nat) : (madeCells (Value.cells (Value.agg #[Value.int .i64 0, Value.int .i64 0])) (m * 2)).toList = ints (List.replicate (m * 2) 0) := by
  show (madeCells #[Value.int .i64 0, Value.int .i64 0] (m * 2)).toList = _
  apply List.ext_getElem?
  intro j
  by_cases hj : j < m * 2
  · rcases Nat.mod_two_eq_zero_or_one j with h | h <;> simp [madeCells, hj, ints, h]
  · simp [madeCells, hj, ints]

set_option maxHeartbeats 800000 in
theorem toSpotS_any (v : Value) (n B : Nat) (xs : List Int) (w : World) (hr : Rd w B 2 v n xs) (hB : B ≤ w.heap.size) (hn : n ≤ 1099511627776) :
    Calls Try.prog 46 #[v] w fun e w' => ∃ u, e = .returned u ∧ w'.ownsRow w.heap.size 28 2 u n (ints xs) ∧ Below w.heap.size w w' := by
  obtain ⟨hl, A, c, rfl, hA⟩ := hr
  have Hl := Lib.hid hl
  clear hl
  obtain ⟨i0, hi, hz0, hz1, hz2⟩ := info_parts spotInfo
  have hz2' : i0.bytes * n ≤ 281474976710656 := by rw [hz2]; omega
  go_enter Try.func46, Try.ntmps46
  go_wp2_with (at_make; refine wpList_make_full _ rfl (.tmp 6) (.tmp 6) 41 rfl w.heap.size 28 i0 (Value.agg #[Value.int .i64 0, Value.int .i64 0]) 2 Try.underlying41 hi hz0 hz1 .i64 .i64 n n n rfl rfl rfl rfl hz2' (by unfold maxLen; omega) (Nat.le_refl _) ?_; intro w1 hown1 hg1)
  rw [madeSpots] at hown1
  have hb1 : Below w.heap.size w w1 := (Below.refl _ _).grown hg1 (Nat.le_refl _) (by simp)
  clear hi hz0 hz1 hz2 hz2' hg1
  go_loopw [4] (fun i wr => ∃ k : Nat, k ≤ n ∧ i = .int .i64 k ∧ wr.ownsRow w.heap.size 28 2 (.slice (some ⟨w.heap.size, 0, none⟩) n n) n (ints (filled xs (n * 2) (k * 2))) ∧ Below w.heap.size w wr) (fun i _ => n - (intOf i).toNat)
  case atStart => exact ⟨0, Nat.zero_le _, rfl, by rw [Nat.zero_mul, filled_zero]; exact hown1, hb1⟩
  case round =>
    obtain ⟨k, hk, rfl, hown, hb⟩ := hrel
    clear hown1 hb1
    by_cases hlt : k < n
    · obtain ⟨b, off, rfl, hbB, hc⟩ := hA (by omega)
      have hx0 := (hb.cell (p := ⟨b, off + k * 2, none⟩) (Nat.lt_of_lt_of_le hbB hB)).trans (hc (k * 2) (by omega))
      have hx1 := (hb.cell (p := ⟨b, off + (k * 2 + 1), none⟩) (Nat.lt_of_lt_of_le hbB hB)).trans (hc (k * 2 + 1) (by omega))
      rw [← Nat.add_assoc] at hx1
      obtain ⟨x, ex⟩ : ∃ x, xs.getD (k * 2) 0 = x := ⟨_, rfl⟩
      obtain ⟨y, ey⟩ : ∃ y, xs.getD (k * 2 + 1) 0 = y := ⟨_, rfl⟩
      rw [ex] at hx0
      rw [ey] at hx1
      have Ex := Lib.hid ex
      have Ey := Lib.hid ey
      have HO := Lib.hid hown
      have HB := Lib.hid hb
      clear ex ey hown hb hc hA
      go_wp2_with fail
      refine (toSpot_any _ _ _).mono ?_
      rintro e w2 ⟨rfl, hb2⟩
      have hown := own_below HO.out hb2 (Nat.le_refl _)
      have hb := below_on HB.out hb2
      have hfl : (filled xs (n * 2) (k * 2)).length = n * 2 := by have := Hl.out; simp [filled]; omega
      have hs0 : w2.cell? ⟨w.heap.size, k * 2, none⟩ = some (.int .i64 ((filled xs (n * 2) (k * 2)).getD (k * 2) 0)) := (hown.cellAt (k * 2) (by omega)).trans (ints_get _ _ (by omega))
      have hs1 : w2.cell? ⟨w.heap.size, k * 2 + 1, none⟩ = some (.int .i64 ((filled xs (n * 2) (k * 2)).getD (k * 2 + 1) 0)) := (hown.cellAt (k * 2 + 1) (by omega)).trans (ints_get _ _ (by omega))
      have hf0 : w2.frozen? ⟨w.heap.size, k * 2, none⟩ = false := hown.frozenAt _
      have hf1 : w2.frozen? ⟨w.heap.size, k * 2 + 1, none⟩ = false := hown.frozenAt _
      have hown2 := (((hown.stored (k * 2) (.int .i64 x)).1).stored (k * 2 + 1) (.int .i64 y)).1
      have e1 : (filled xs (n * 2) (k * 2)).set (k * 2) x = filled xs (n * 2) (k * 2 + 1) := by rw [← Ex.out]; exact filled_set xs (n * 2) (k * 2) Hl.out (by omega)
      have e2 : (filled xs (n * 2) (k * 2 + 1)).set (k * 2 + 1) y = filled xs (n * 2) ((k + 1) * 2) := by rw [← Ey.out, Nat.succ_mul]; exact filled_set xs (n * 2) (k * 2 + 1) Hl.out (by omega)
      rw [ints_set, e1, ints_set, e2] at hown2
      have hb3 := (hb.setCell (p := ⟨w.heap.size, k * 2, none⟩) (Nat.le_refl _) (.int .i64 x)).setCell (p := ⟨w.heap.size, k * 2 + 1, none⟩) (Nat.le_refl _) (.int .i64 y)
      have HO2 := Lib.hid hown2
      have HB2 := Lib.hid hb3
      clear hown2 hown hb hb3 hfl e1 e2 hb2 HO HB
      go_wp2
      go_roundw
      case rel => exact ⟨k + 1, by omega, by go_num, HO2.out, HB2.out⟩
      case measure => simp [intOf]; omega
    · have hkn : k = n := by omega
      have hown2 : wr.ownsRow w.heap.size 28 2 (.slice (some ⟨w.heap.size, 0, none⟩) n n) n (ints xs) := by
        rw [hkn, filled_all xs (n * 2) Hl.out] at hown; exact hown
      clear hkn hown hA
      go_wp2
      go_ret
      exact ⟨_, rfl, hown2, hb⟩

/-- 'append(out, Spot{x, y})' to an owned slice of spots. -/
theorem app_spot {w : World} {ops : Array Oper} {rest : List Oper} {o : Oper} {a : Act} {Q : Exit → Act → World → Prop} (hgd : o.guard = none) (s u : Operand)
    (ho : o.op = .call { callee := .builtin .append, args := #[s, u], argTypes := #[41, 41] })
    (base : Nat) (v : Value) (n : Nat) (xs : List Int) (hs : a.eval s = v) (hown : w.ownsRow base 28 2 v n (ints xs)) (g : Nat) (x y : Int)
    (hx : a.eval u = .slice (some ⟨g, 0, none⟩) 1 1) (c0 : w.cell? ⟨g, 0, none⟩ = some (.int .i64 x)) (c1 : w.cell? ⟨g, 1, none⟩ = some (.int .i64 y)) (hn : n ≤ 1099511627776) (hbase : base ≤ w.heap.size)
    (h : ∀ v' w', w'.ownsRow base 28 2 v' (n + 1) (ints (xs ++ [x, y])) → w.grownBy w' v.ownBlock → wpList Try.prog ops Q rest (a.put o.dst v') w') : wpList Try.prog ops Q (o :: rest) a w := by
  obtain ⟨i0, hi, hz0, hz1, hz2⟩ := info_parts spotInfo
  refine wpList_append_own _ hgd s u 41 ho base 28 i0 (Value.agg #[Value.int .i64 0, Value.int .i64 0]) 2 16 Try.underlying41 hi hz0 hz1 hz2 rfl (by decide) v n (ints xs) hs hown ⟨g, 0, none⟩ 1 1 [.int .i64 x, .int .i64 y] hx rfl ?_ ?_ ?_ ?_ hbase ?_
  · intro j u hj
    match j, hj with
    | 0, hj => simp at hj; subst hj; exact c0
    | 1, hj => simp at hj; subst hj; exact c1
  · intro u hu; simp at hu; rcases hu with rfl | rfl <;> rfl
  · unfold maxLen; omega
  · omega
  · intro v' w' h1 h2 _
    exact h v' w' (by rw [ints_append]; exact h1) h2

theorem eqSpot_same (x y : Int) (w : World) : Calls Try.prog 83 #[(Value.agg #[Value.int .i64 x, Value.int .i64 y]), (Value.agg #[Value.int .i64 x, Value.int .i64 y])] w fun e w' => e = .returned (.bool true) ∧ Below w.heap.size w w' := by
  have h1 : (x != x) = false := by simp
  have h2 : (y != y) = false := by simp
  go_enter Try.func83, Try.ntmps83
  go_wp2
  go_ret
  exact ⟨rfl, ((Below.refl _ _).alloc (Nat.le_refl _) _).alloc (by simp) _⟩

set_option maxHeartbeats 800000 in
theorem eqSpotS_same (v u : Value) (n B : Nat) (xs : List Int) (w : World) (hv : Rd w B 2 v n xs) (hu : Rd w B 2 u n xs) (hB : B ≤ w.heap.size) (hn : n ≤ 1099511627776) :
    Calls Try.prog 52 #[v, u] w fun e w' => e = .returned (.bool true) ∧ Below w.heap.size w w' := by
  obtain ⟨_, A, c, rfl, hA⟩ := hv
  obtain ⟨_, C, d, rfl, hC⟩ := hu
  have hnn : ((n : Int) != (n : Int)) = false := by simp
  go_enter Try.func52, Try.ntmps52
  go_wp2_with fail
  go_loopw [5] (fun i wr => ∃ k : Nat, k ≤ n ∧ i = .int .i64 k ∧ Below w.heap.size w wr) (fun i _ => n - (intOf i).toNat)
  case atStart => exact ⟨0, Nat.zero_le _, rfl, Below.refl _ _⟩
  case round =>
    obtain ⟨k, hk, rfl, hb⟩ := hrel
    by_cases hlt : k < n
    · obtain ⟨b, off, rfl, hbB, hc⟩ := hA (by omega)
      obtain ⟨b', off', rfl, hbB', hc'⟩ := hC (by omega)
      have c0 := (hb.cell (p := ⟨b, off + k * 2, none⟩) (Nat.lt_of_lt_of_le hbB hB)).trans (hc (k * 2) (by omega))
      have c1 := (hb.cell (p := ⟨b, off + (k * 2 + 1), none⟩) (Nat.lt_of_lt_of_le hbB hB)).trans (hc (k * 2 + 1) (by omega))
      have d0 := (hb.cell (p := ⟨b', off' + k * 2, none⟩) (Nat.lt_of_lt_of_le hbB' hB)).trans (hc' (k * 2) (by omega))
      have d1 := (hb.cell (p := ⟨b', off' + (k * 2 + 1), none⟩) (Nat.lt_of_lt_of_le hbB' hB)).trans (hc' (k * 2 + 1) (by omega))
      rw [← Nat.add_assoc] at c1 d1
      obtain ⟨x, ex⟩ : ∃ x, xs.getD (k * 2) 0 = x := ⟨_, rfl⟩
      obtain ⟨y, ey⟩ : ∃ y, xs.getD (k * 2 + 1) 0 = y := ⟨_, rfl⟩
      rw [ex] at c0 d0
      rw [ey] at c1 d1
      have hk0 : (0 : Int) ≤ (k : Int) := by omega
      have hk1 : (k : Int) < (n : Int) := by omega
      clear hc hc' hA hC ex ey
      go_wp2_with fail
      go_region_held3 (fun W => W.cell? ⟨b, off + k * 2, none⟩ = some (.int .i64 x) ∧ W.cell? ⟨b, off + k * 2 + 1, none⟩ = some (.int .i64 y) ∧ W.cell? ⟨b', off' + k * 2, none⟩ = some (.int .i64 x) ∧ W.cell? ⟨b', off' + k * 2 + 1, none⟩ = some (.int .i64 y) ∧ Below w.heap.size w W)
        (first | exact ⟨c0, c1, d0, d1, hb.drew⟩ | (go_split_ands; exact ⟨cell_on hb2 (by assumption), cell_on hb2 (by assumption), cell_on hb2 (by assumption), cell_on hb2 (by assumption), below_on (by assumption) hb2⟩) | go_keep)
        (first | (go_at_call 83; refine (eqSpot_same x y _).mono ?_; rintro e w2 ⟨rfl, hb2⟩))
      go_split_ands
      rename_i hb9
      have HB := Lib.hid hb9
      clear c0 c1 d0 d1 hb hb9
      go_wp2_with fail
      go_roundw
      case rel => exact ⟨k + 1, by omega, by go_num, HB.out⟩
      case measure => simp [intOf]; omega
    · clear hA hC
      go_wp2_with fail
      go_ret
      exact ⟨rfl, hb⟩

set_option maxHeartbeats 800000 in
theorem markSpotS_any (v : Value) (n base : Nat) (vs : List Value) (k : Int) (w : World) (hown : w.ownsRow base 28 2 v n vs) (hk0 : 0 ≤ k) (hk : k ≤ 1099511627776) (hn : n ≤ 1099511627776) :
    Calls Try.prog 58 #[v, .int .i64 k] w fun e w' => e = .returned (.int .i64 (k + ((n * 2 : Nat) : Int))) ∧ w'.ownsRow base 28 2 v n (ints (marks (n * 2) k)) ∧ w.grownBy w' v.ownBlock := by
  have Hl := Lib.hid hown.1
  obtain ⟨A, c, rfl, hA⟩ : ∃ A c, v = .slice A n c ∧ (0 < n → ∃ g, A = some ⟨g, 0, none⟩) := by
    rcases hown.2 with ⟨rfl, rfl⟩ | ⟨g, cap, cur, rfl, _⟩
    · exact ⟨none, 0, rfl, fun h => absurd h (by omega)⟩
    · exact ⟨_, cap, rfl, fun _ => ⟨g, rfl⟩⟩
  go_enter Try.func58, Try.ntmps58
  go_wp2_with fail
  go_loopw [1, 5] (fun q i wr => ∃ j : Nat, j ≤ n ∧ i = .int .i64 j ∧ q = .int .i64 (k + ((j * 2 : Nat) : Int)) ∧ wr.ownsRow base 28 2 (.slice A n c) n (marked vs k (j * 2)) ∧ w.grownBy wr (Value.slice A n c).ownBlock) (fun _ i _ => n - (intOf i).toNat)
  case atStart => exact ⟨0, Nat.zero_le _, rfl, by simp, by rw [Nat.zero_mul, marked_zero]; exact hown, World.grownBy.refl _ _⟩
  case round =>
    obtain ⟨j, hj, rfl, rfl, hown, hg⟩ := hrel
    by_cases hlt : j < n
    · obtain ⟨g, rfl⟩ := hA (by omega)
      have hvl : vs.length = n * 2 := Hl.out
      have hs0 := hown.cellAt (j * 2) (by omega)
      have hs1 := hown.cellAt (j * 2 + 1) (by omega)
      have hjl : j * 2 + 1 < (marked vs k (j * 2)).length := by rw [marked_length _ _ _ (by omega)]; omega
      rw [List.getElem?_eq_getElem (by omega)] at hs0 hs1
      obtain ⟨x, hx⟩ : ∃ x, (marked vs k (j * 2))[j * 2] = x := ⟨_, rfl⟩
      obtain ⟨y, hy⟩ : ∃ y, (marked vs k (j * 2))[j * 2 + 1] = y := ⟨_, rfl⟩
      rw [hx] at hs0
      rw [hy] at hs1
      have hf0 : wr.frozen? ⟨g, j * 2, none⟩ = false := hown.frozenAt _
      have hf1 : wr.frozen? ⟨g, j * 2 + 1, none⟩ = false := hown.frozenAt _
      obtain ⟨hown1, hg1⟩ := hown.stored (j * 2) (.int .i64 (k + ((j * 2 : Nat) : Int)))
      obtain ⟨hown2, hg2⟩ := hown1.stored (j * 2 + 1) (.int .i64 (k + ((j * 2 + 1 : Nat) : Int)))
      rw [marked_set vs k (j * 2) (by omega), marked_set vs k (j * 2 + 1) (by omega), show j * 2 + 1 + 1 = (j + 1) * 2 by omega] at hown2
      have hg3 := grow_trans (grow_trans hg hg1) hg2
      have e1 : k + ((j * 2 + 1 : Nat) : Int) = k + (j : Int) * 2 + 1 := by omega
      have e0 : ((j * 2 : Nat) : Int) = (j : Int) * 2 := by omega
      rw [e1, e0] at hown2 hg3
      rw [e0]
      have HO := Lib.hid hown2
      have HG := Lib.hid hg3
      have hj0 : (j : Int) ≤ (n : Int) := by omega
      have hj1 : (0 : Int) ≤ (j : Int) := by omega
      clear hown2 hown1 hown hA hjl hx hy hg hg2 hg3 hg1 hvl e0 e1
      go_wp2_with fail
      go_roundw
      case rel => exact ⟨j + 1, by omega, by go_num, by go_num, HO.out, HG.out⟩
      case measure => simp [intOf]; omega
    · obtain rfl : j = n := by omega
      have hown2 : wr.ownsRow base 28 2 (.slice A j c) j (ints (marks (j * 2) k)) := by rw [marked_all vs k (j * 2) Hl.out] at hown; exact hown
      clear hown hA
      go_wp2_with fail
      go_ret
      exact ⟨rfl, hown2, hg⟩

end Go.Proofs.Ytpikhkdgohapeaa
