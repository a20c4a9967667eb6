/- Contracts of the length of a part and of a way, in the program and in the reference. Conditions: the spots lie on the field, and there are at most twelve. -/
import Derived.Test.YtciolimmfldpbaaAbs
import Derived.Test.YtciolimmfldpbaaWay
import Derived.BigQuiet
import Derived.Deep.QuietTactic
import Derived.Deep.RegionWith
namespace Go.Proofs.Ytciolimmfldpbaa
open Go.RowKit

/-- A contract that changes nothing, with the worlds the other way round, as a quiet region wants it. -/
theorem flip_same {P : Program} {f : FuncId} {args : Array Value} {w : World} {v : Value} (h : Calls P f args w fun e w' => e = .returned v ∧ w = w') :
    Calls P f args w fun e w' => e = .returned v ∧ w' = w := h.mono fun _ _ ⟨he, hm⟩ => ⟨he, hm.symm⟩

/-- The length of a straight part. -/
def farL (x y z u : Int) : Int := ab (z - x) + ab (u - y)
def farAt (xs : List Int) (k : Nat) : Int := farL (X xs k) (Y xs k) (X xs (k + 1)) (Y xs (k + 1))
/-- The length of the first k parts. -/
def lenTo (xs : List Int) : Nat → Int | 0 => 0 | k + 1 => lenTo xs k + farAt xs k
theorem farL_in {x y z u : Int} (h : spotB x y = true) (h' : spotB z u = true) : 0 ≤ farL x y z u ∧ farL x y z u ≤ 1952 := by
  have a := spotB_yes h
  have b := spotB_yes h'
  have c := ab_le (x := z - x) (m := 1280) (by omega) (by omega)
  have d := ab_le (x := u - y) (m := 672) (by omega) (by omega)
  unfold farL; omega
/-- All spots lie on the field. -/
def onField (xs : List Int) (n : Nat) : Prop := ∀ j, j < n → spotB (X xs j) (Y xs j) = true
theorem wayB_yes {n : Nat} {xs : List Int} (h : wayB n xs = true) : (2 ≤ n ∧ n ≤ 12) ∧ onField xs n ∧ ∀ j, j < n → okAt xs j = true := by
  simp only [wayB, Bool.and_eq_true, List.all_eq_true, List.mem_range] at h
  have := inB_yes h.1
  refine ⟨by omega, fun j hj => ?_, h.2⟩
  have := h.2 j hj
  simp only [okAt, Bool.and_eq_true] at this
  exact this.1
theorem lenTo_in {xs : List Int} {n : Nat} (h : onField xs n) : ∀ k, k < n → 0 ≤ lenTo xs k ∧ lenTo xs k ≤ 1952 * (k : Int)
  | 0, _ => by simp [lenTo]
  | k + 1, hk => by
    have ih := lenTo_in h k (by omega)
    have f := farL_in (h k (by omega)) (h (k + 1) hk)
    unfold lenTo farAt; omega

set_option maxHeartbeats 400000 in
theorem partLength_any (x y z u : Int) (w : World) (h : spotB x y = true) (h' : spotB z u = true) :
    Calls Try.prog 65 #[(Value.agg #[Value.int .i64 x, Value.int .i64 y]), (Value.agg #[Value.int .i64 z, Value.int .i64 u])] w fun e w' => e = .returned (.int .i64 (farL x y z u)) ∧ Below w.heap.size w w' := by
  have a := spotB_yes h
  have b := spotB_yes h'
  have HA := Lib.hid (ab_cases (z - x))
  have HB := Lib.hid (ab_cases (u - y))
  clear h h'
  go_enter Try.func65, Try.ntmps65
  go_wp2_with fail
  all_goals go_ret
  all_goals
    refine ⟨ret_int ?_, ((Below.refl _ _).alloc (Nat.le_refl _) _).alloc (by simp) _⟩
    have hA := HA.out
    have hB := HB.out
    unfold farL
    omega

set_option maxHeartbeats 400000 in
theorem foFar_any (x y z u : Int) (w : World) (h : spotB x y = true) (h' : spotB z u = true) :
    Calls Try.prog 38 #[(Value.agg #[Value.int .i64 x, Value.int .i64 y]), (Value.agg #[Value.int .i64 z, Value.int .i64 u])] w fun e w' => e = .returned (.int .i64 (farL x y z u)) ∧ Below w.heap.size w w' := by
  have a := spotB_yes h
  have b := spotB_yes h'
  have HA := Lib.hid (ab_cases (z - x))
  have HB := Lib.hid (ab_cases (u - y))
  have HC := Lib.hid (ab_cases (x - z))
  have HD := Lib.hid (ab_cases (y - u))
  have c := ab_le (x := x - z) (m := 1280) (by omega) (by omega)
  have d := ab_le (x := y - u) (m := 672) (by omega) (by omega)
  have h1 := fun W => l1Abs_any (x - z) W (by omega) (by omega)
  have h2 := fun W => l1Abs_any (y - u) W (by omega) (by omega)
  have H1 := Lib.hid h1
  have H2 := Lib.hid h2
  have e1 := IntWalk.i64_in (x - z) (by omega)
  have e2 := IntWalk.i64_in (y - u) (by omega)
  have e3 := IntWalk.i64_in (ab (x - z) + ab (y - u)) (by omega)
  clear h h' h1 h2 a b c d
  go_enter Try.func38, Try.ntmps38
  go_wp2_with fail
  go_quiet (first | (go_at_call_of 66 (x - z); exact Calls.quiet_of_same (flip_same (H1.out _))) | (go_at_call_of 66 (y - u); exact Calls.quiet_of_same (flip_same (H2.out _))))
  clear e1 e2 e3
  go_wp2_with fail
  go_ret
  refine ⟨ret_int ?_, below_drewN (((Below.refl _ _).alloc (Nat.le_refl _) _).alloc (by simp) _) _⟩
  have hA := HA.out
  have hB := HB.out
  have hC := HC.out
  have hD := HD.out
  unfold farL
  omega

set_option maxHeartbeats 1000000 in
theorem wayLength_any (v : Value) (n B : Nat) (xs : List Int) (w : World) (hv : Rd w B 2 v n xs) (hB : B ≤ w.heap.size) (h2 : 2 ≤ n) (hn : n ≤ 12) (hl : onField xs n) :
    Calls Try.prog 36 #[v] w fun e w' => e = .returned (.int .i64 (lenTo xs (n - 1))) ∧ Below w.heap.size w w' := by
  have Hv := Lib.hid hv
  obtain ⟨A, c, rfl⟩ := hv.form
  have HL := Lib.hid hl
  have HI := Lib.hid (fun k (hk : k < n) => lenTo_in hl k hk)
  clear hv hl
  go_enter Try.func36, Try.ntmps36
  go_wp2_with fail
  go_loopw [3, 4] (fun s i wr => ∃ k : Nat, k + 1 ≤ n ∧ i = .int .i64 ((k : Int) + 1) ∧ s = .int .i64 (lenTo xs k) ∧ Below w.heap.size w wr) (fun _ i _ => n - (intOf i).toNat)
  case atStart => exact ⟨0, by omega, by simp, rfl, Below.refl _ _⟩
  case round =>
    obtain ⟨k, hk, rfl, rfl, hb⟩ := hrel
    by_cases hlt : k + 1 < n
    · obtain ⟨b, off, rfl, hbB, hc⟩ := Hv.out.spot (by omega)
      have hc0 := hc k (by omega)
      have hc1 := hc (k + 1) hlt
      obtain ⟨x, ex⟩ : ∃ x, X xs k = x := ⟨_, rfl⟩
      obtain ⟨y, ey⟩ : ∃ y, Y xs k = y := ⟨_, rfl⟩
      obtain ⟨z, ez⟩ : ∃ z, X xs (k + 1) = z := ⟨_, rfl⟩
      obtain ⟨u, eu⟩ : ∃ u, Y xs (k + 1) = u := ⟨_, rfl⟩
      have s1 := HL.out k (by omega)
      have s2 := HL.out (k + 1) hlt
      have hs : lenTo xs (k + 1) = lenTo xs k + farL x y z u := by rw [← ex, ← ey, ← ez, ← eu]; rfl
      have hi := HI.out k (by omega)
      rw [ex, ey] at hc0 s1
      rw [ez, eu] at hc1 s2
      have hf := farL_in s1 s2
      have HF := Lib.hid (fun W => partLength_any x y z u W s1 s2)
      have HS := Lib.hid hs
      obtain ⟨l, el⟩ : ∃ l, lenTo xs k = l := ⟨_, rfl⟩
      rw [el] at hi HS
      rw [el]
      have c0 := (hb.cell (p := ⟨b, off + k * 2, none⟩) (Nat.lt_of_lt_of_le hbB hB)).trans hc0.1
      have c1 := (hb.cell (p := ⟨b, off + k * 2 + 1, none⟩) (Nat.lt_of_lt_of_le hbB hB)).trans hc0.2
      have d0 := (hb.cell (p := ⟨b, off + (k + 1) * 2, none⟩) (Nat.lt_of_lt_of_le hbB hB)).trans hc1.1
      have d1 := (hb.cell (p := ⟨b, off + (k + 1) * 2 + 1, none⟩) (Nat.lt_of_lt_of_le hbB hB)).trans hc1.2
      have e1 := IntWalk.i64_in (l + farL x y z u) (by omega)
      have i0 : (0 : Int) ≤ (k : Int) := by omega
      have i1 : (k : Int) < (n : Int) := by omega
      have i2 : (0 : Int) ≤ (k : Int) + 1 := by omega
      have i3 : (k : Int) + 1 < (n : Int) := by omega
      have i4 : ((k : Int) + 1).toNat = k + 1 := by omega
      have i5 := IntWalk.i64_in (k : Int) (by omega)
      have i6 := IntWalk.i64_in ((k : Int) + 1) (by omega)
      have HB := Lib.hid hb
      clear hc hc0 hc1 ex ey ez eu el hs s1 s2 hi hf hb
      go_wp2_with fail
      go_region_held3 (fun W => W.cell? ⟨b, off + k * 2, none⟩ = some (.int .i64 x) ∧ W.cell? ⟨b, off + k * 2 + 1, none⟩ = some (.int .i64 y) ∧ W.cell? ⟨b, off + (k + 1) * 2, none⟩ = some (.int .i64 z) ∧ W.cell? ⟨b, off + (k + 1) * 2 + 1, none⟩ = some (.int .i64 u) ∧ Below w.heap.size w W)
        (first | exact ⟨c0, c1, d0, d1, HB.out.drew⟩ | (go_split_ands; exact ⟨cell_on hb2 (by assumption), cell_on hb2 (by assumption), cell_on hb2 (by assumption), cell_on hb2 (by assumption), below_on (by assumption) hb2⟩) | go_keep)
        (first | (go_at_call 65; refine (HF.out _).mono ?_; rintro e w2 ⟨rfl, hb2⟩))
      go_split_ands
      rename_i hb9
      have HB9 := Lib.hid hb9
      clear c0 c1 d0 d1 hb9 e1 i4 i5 i6
      go_wp2_with fail
      go_roundw
      case rel => exact ⟨k + 1, by omega, by go_num, by rw [HS.out], HB9.out⟩
      case measure => simp [intOf]; omega
    · obtain rfl : n = k + 1 := by omega
      go_wp2_with fail
      go_ret
      exact ⟨rfl, hb⟩
set_option maxHeartbeats 1000000 in
theorem foLength_any (v : Value) (n B : Nat) (xs : List Int) (w : World) (hv : Rd w B 2 v n xs) (hB : B ≤ w.heap.size) (h2 : 2 ≤ n) (hn : n ≤ 12) (hl : onField xs n) :
    Calls Try.prog 42 #[v] w fun e w' => e = .returned (.int .i64 (lenTo xs (n - 1))) ∧ Below w.heap.size w w' := by
  have Hv := Lib.hid hv
  obtain ⟨A, c, rfl⟩ := hv.form
  have HL := Lib.hid hl
  have HI := Lib.hid (fun k (hk : k < n) => lenTo_in hl k hk)
  clear hv hl
  go_enter Try.func42, Try.ntmps42
  go_wp2_with fail
  go_loopw [3, 4] (fun s i wr => ∃ k : Nat, k + 1 ≤ n ∧ i = .int .i64 ((k : Int) + 1) ∧ s = .int .i64 (lenTo xs k) ∧ Below w.heap.size w wr) (fun _ i _ => n - (intOf i).toNat)
  case atStart => exact ⟨0, by omega, by simp, rfl, Below.refl _ _⟩
  case round =>
    obtain ⟨k, hk, rfl, rfl, hb⟩ := hrel
    by_cases hlt : k + 1 < n
    · obtain ⟨b, off, rfl, hbB, hc⟩ := Hv.out.spot (by omega)
      have hc0 := hc k (by omega)
      have hc1 := hc (k + 1) hlt
      obtain ⟨x, ex⟩ : ∃ x, X xs k = x := ⟨_, rfl⟩
      obtain ⟨y, ey⟩ : ∃ y, Y xs k = y := ⟨_, rfl⟩
      obtain ⟨z, ez⟩ : ∃ z, X xs (k + 1) = z := ⟨_, rfl⟩
      obtain ⟨u, eu⟩ : ∃ u, Y xs (k + 1) = u := ⟨_, rfl⟩
      have s1 := HL.out k (by omega)
      have s2 := HL.out (k + 1) hlt
      have hs : lenTo xs (k + 1) = lenTo xs k + farL x y z u := by rw [← ex, ← ey, ← ez, ← eu]; rfl
      have hi := HI.out k (by omega)
      rw [ex, ey] at hc0 s1
      rw [ez, eu] at hc1 s2
      have hf := farL_in s1 s2
      have HF := Lib.hid (fun W => foFar_any x y z u W s1 s2)
      have HS := Lib.hid hs
      obtain ⟨l, el⟩ : ∃ l, lenTo xs k = l := ⟨_, rfl⟩
      rw [el] at hi HS
      rw [el]
      have c0 := (hb.cell (p := ⟨b, off + k * 2, none⟩) (Nat.lt_of_lt_of_le hbB hB)).trans hc0.1
      have c1 := (hb.cell (p := ⟨b, off + k * 2 + 1, none⟩) (Nat.lt_of_lt_of_le hbB hB)).trans hc0.2
      have d0 := (hb.cell (p := ⟨b, off + (k + 1) * 2, none⟩) (Nat.lt_of_lt_of_le hbB hB)).trans hc1.1
      have d1 := (hb.cell (p := ⟨b, off + (k + 1) * 2 + 1, none⟩) (Nat.lt_of_lt_of_le hbB hB)).trans hc1.2
      have e1 := IntWalk.i64_in (l + farL x y z u) (by omega)
      have i0 : (0 : Int) ≤ (k : Int) := by omega
      have i1 : (k : Int) < (n : Int) := by omega
      have i2 : (0 : Int) ≤ (k : Int) + 1 := by omega
      have i3 : (k : Int) + 1 < (n : Int) := by omega
      have i4 : ((k : Int) + 1).toNat = k + 1 := by omega
      have i5 := IntWalk.i64_in (k : Int) (by omega)
      have i6 := IntWalk.i64_in ((k : Int) + 1) (by omega)
      have HB := Lib.hid hb
      clear hc hc0 hc1 ex ey ez eu el hs s1 s2 hi hf hb
      go_wp2_with fail
      go_region_held3 (fun W => W.cell? ⟨b, off + k * 2, none⟩ = some (.int .i64 x) ∧ W.cell? ⟨b, off + k * 2 + 1, none⟩ = some (.int .i64 y) ∧ W.cell? ⟨b, off + (k + 1) * 2, none⟩ = some (.int .i64 z) ∧ W.cell? ⟨b, off + (k + 1) * 2 + 1, none⟩ = some (.int .i64 u) ∧ Below w.heap.size w W)
        (first | exact ⟨c0, c1, d0, d1, HB.out.drew⟩ | (go_split_ands; exact ⟨cell_on hb2 (by assumption), cell_on hb2 (by assumption), cell_on hb2 (by assumption), cell_on hb2 (by assumption), below_on (by assumption) hb2⟩) | go_keep)
        (first | (go_at_call 38; refine (HF.out _).mono ?_; rintro e w2 ⟨rfl, hb2⟩))
      go_split_ands
      rename_i hb9
      have HB9 := Lib.hid hb9
      clear c0 c1 d0 d1 hb9 e1 i4 i5 i6
      go_wp2_with fail
      go_roundw
      case rel => exact ⟨k + 1, by omega, by go_num, by rw [HS.out], HB9.out⟩
      case measure => simp [intOf]; omega
    · obtain rfl : n = k + 1 := by omega
      go_wp2_with fail
      go_ret
      exact ⟨rfl, hb⟩
end Go.Proofs.Ytciolimmfldpbaa
