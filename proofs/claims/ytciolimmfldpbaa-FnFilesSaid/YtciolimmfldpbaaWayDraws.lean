/- What is drawn for the laws on ways. Condition: the code's bytes can be read. -/
import Derived.Test.YtciolimmfldpbaaWayDraw
import Derived.Test.YtciolimmfldpbaaCurAny
import Derived.Test.YtciolimmfldpbaaSquareOf
import Derived.Test.YtciolimmfldpbaaLength
namespace Go.Proofs.Ytciolimmfldpbaa
open Go.RowKit


def allB (xs : List Int) (n : Nat) : Prop := bnd xs n 4000
set_option maxHeartbeats 400000 in
theorem foFar_bnd (x y z u : Int) (w : World) (h : (-4000 ≤ x ∧ x ≤ 4000) ∧ -4000 ≤ y ∧ y ≤ 4000) (h' : (-4000 ≤ z ∧ z ≤ 4000) ∧ -4000 ≤ u ∧ u ≤ 4000) :
    Calls Try.prog 38 #[(Value.agg #[Value.int .i64 x, Value.int .i64 y]), (Value.agg #[Value.int .i64 z, Value.int .i64 u])] w fun e w' => e = .returned (.int .i64 (farL x y z u)) ∧ Below w.heap.size w w' := by
  have HA := Lib.hid (ab_cases (z - x))
  have HB := Lib.hid (ab_cases (u - y))
  have HC := Lib.hid (ab_cases (x - z))
  have HD := Lib.hid (ab_cases (y - u))
  have c := ab_le (x := x - z) (m := 8000) (by omega) (by omega)
  have d := ab_le (x := y - u) (m := 8000) (by omega) (by omega)
  have H1 := Lib.hid (fun W => l1Abs_any (x - z) W (by omega) (by omega))
  have H2 := Lib.hid (fun W => l1Abs_any (y - u) W (by omega) (by omega))
  have e1 := IntWalk.i64_in (x - z) (by omega)
  have e2 := IntWalk.i64_in (y - u) (by omega)
  have e3 := IntWalk.i64_in (ab (x - z) + ab (y - u)) (by omega)
  clear h h' c d
  go_enter Try.func38, Try.ntmps38
  go_wp2_with fail
  go_quiet (first | (go_at_call_of 66 (x - z); exact Calls.quiet_of_same (flip_same (H1.out _))) | (go_at_call_of 66 (y - u); exact Calls.quiet_of_same (flip_same (H2.out _))))
  clear e1 e2 e3
  go_wp2_with fail
  go_ret
  refine ⟨ret_int ?_, below_drewN (((Below.refl _ _).alloc (Nat.le_refl _) _).alloc (by simp) _) _⟩
  have hA := HA.out
  have hB := HB.out
  have hC := HC.out
  have hD := HD.out
  unfold farL
  omega
theorem farL_bnd {x y z u : Int} (h : (-4000 ≤ x ∧ x ≤ 4000) ∧ -4000 ≤ y ∧ y ≤ 4000) (h' : (-4000 ≤ z ∧ z ≤ 4000) ∧ -4000 ≤ u ∧ u ≤ 4000) : 0 ≤ farL x y z u ∧ farL x y z u ≤ 16000 := by
  have c := ab_le (x := z - x) (m := 8000) (by omega) (by omega)
  have d := ab_le (x := u - y) (m := 8000) (by omega) (by omega)
  unfold farL; omega
theorem lenTo_bnd {xs : List Int} {n : Nat} (h : bnd xs n 4000) : ∀ k, k < n → 0 ≤ lenTo xs k ∧ lenTo xs k ≤ 16000 * (k : Int)
  | 0, _ => by simp [lenTo]
  | k + 1, hk => by
    have ih := lenTo_bnd h k (by omega)
    have f := farL_bnd (h k (by omega)) (h (k + 1) hk)
    unfold lenTo farAt; omega
set_option maxHeartbeats 1000000 in
theorem foLength_bnd (v : Value) (n B : Nat) (xs : List Int) (w : World) (hv : Rd w B 2 v n xs) (hB : B ≤ w.heap.size) (h2 : 1 ≤ n) (hn : n ≤ 14) (hl : bnd xs n 4000) :
    Calls Try.prog 42 #[v] w fun e w' => e = .returned (.int .i64 (lenTo xs (n - 1))) ∧ Below w.heap.size w w' := by
  have Hv := Lib.hid hv
  obtain ⟨A, c, rfl⟩ := hv.form
  have HL := Lib.hid hl
  have HI := Lib.hid (fun k (hk : k < n) => lenTo_bnd hl k hk)
  clear hv hl
  go_enter Try.func42, Try.ntmps42
  go_wp2_with fail
  go_loopw [3, 4] (fun s i wr => ∃ k : Nat, k + 1 ≤ n ∧ i = .int .i64 ((k : Int) + 1) ∧ s = .int .i64 (lenTo xs k) ∧ Below w.heap.size w wr) (fun _ i _ => n - (intOf i).toNat)
  case atStart => exact ⟨0, by omega, by simp, rfl, Below.refl _ _⟩
  case round =>
    obtain ⟨k, hk, rfl, rfl, hb⟩ := hrel
    by_cases hlt : k + 1 < n
    · obtain ⟨b, off, rfl, hbB, hc⟩ := Hv.out.spot (by omega)
      have hc0 := hc k (by omega)
      have hc1 := hc (k + 1) hlt
      obtain ⟨x, ex⟩ : ∃ x, X xs k = x := ⟨_, rfl⟩
      obtain ⟨y, ey⟩ : ∃ y, Y xs k = y := ⟨_, rfl⟩
      obtain ⟨z, ez⟩ : ∃ z, X xs (k + 1) = z := ⟨_, rfl⟩
      obtain ⟨u, eu⟩ : ∃ u, Y xs (k + 1) = u := ⟨_, rfl⟩
      have s1 := HL.out k (by omega)
      have s2 := HL.out (k + 1) hlt
      have hs : lenTo xs (k + 1) = lenTo xs k + farL x y z u := by rw [← ex, ← ey, ← ez, ← eu]; rfl
      have hi := HI.out k (by omega)
      rw [ex, ey] at hc0 s1
      rw [ez, eu] at hc1 s2
      have hf := farL_bnd s1 s2
      have HF := Lib.hid (fun W => foFar_bnd x y z u W s1 s2)
      have HS := Lib.hid hs
      obtain ⟨l, el⟩ : ∃ l, lenTo xs k = l := ⟨_, rfl⟩
      rw [el] at hi HS
      rw [el]
      have c0 := (hb.cell (p := ⟨b, off + k * 2, none⟩) (Nat.lt_of_lt_of_le hbB hB)).trans hc0.1
      have c1 := (hb.cell (p := ⟨b, off + k * 2 + 1, none⟩) (Nat.lt_of_lt_of_le hbB hB)).trans hc0.2
      have d0 := (hb.cell (p := ⟨b, off + (k + 1) * 2, none⟩) (Nat.lt_of_lt_of_le hbB hB)).trans hc1.1
      have d1 := (hb.cell (p := ⟨b, off + (k + 1) * 2 + 1, none⟩) (Nat.lt_of_lt_of_le hbB hB)).trans hc1.2
      have e1 := IntWalk.i64_in (l + farL x y z u) (by omega)
      have i0 : (0 : Int) ≤ (k : Int) := by omega
      have i1 : (k : Int) < (n : Int) := by omega
      have i2 : (0 : Int) ≤ (k : Int) + 1 := by omega
      have i3 : (k : Int) + 1 < (n : Int) := by omega
      have i4 : ((k : Int) + 1).toNat = k + 1 := by omega
      have i5 := IntWalk.i64_in (k : Int) (by omega)
      have i6 := IntWalk.i64_in ((k : Int) + 1) (by omega)
      have HB := Lib.hid hb
      clear hc hc0 hc1 ex ey ez eu el hs s1 s2 hi hf hb
      go_wp2_with fail
      go_region_held3 (fun W => W.cell? ⟨b, off + k * 2, none⟩ = some (.int .i64 x) ∧ W.cell? ⟨b, off + k * 2 + 1, none⟩ = some (.int .i64 y) ∧ W.cell? ⟨b, off + (k + 1) * 2, none⟩ = some (.int .i64 z) ∧ W.cell? ⟨b, off + (k + 1) * 2 + 1, none⟩ = some (.int .i64 u) ∧ Below w.heap.size w W)
        (first | exact ⟨c0, c1, d0, d1, HB.out.drew⟩ | (go_split_ands; exact ⟨cell_on hb2 (by assumption), cell_on hb2 (by assumption), cell_on hb2 (by assumption), cell_on hb2 (by assumption), below_on (by assumption) hb2⟩) | go_keep)
        (first | (go_at_call 38; refine (HF.out _).mono ?_; rintro e w2 ⟨rfl, hb2⟩))
      go_split_ands
      rename_i hb9
      have HB9 := Lib.hid hb9
      clear c0 c1 d0 d1 hb9 e1 i4 i5 i6
      go_wp2_with fail
      go_roundw
      case rel => exact ⟨k + 1, by omega, by go_num, by rw [HS.out], HB9.out⟩
      case measure => simp [intOf]; omega
    · obtain rfl : n = k + 1 := by omega
      go_wp2_with fail
      go_ret
      exact ⟨rfl, hb⟩
set_option maxRecDepth 100000 in
set_option maxHeartbeats 2000000 in
theorem wayLengthOf_any (B g N : Nat) (u : Value) (n : Nat) (xs : List Int) (w : World) (h : Cur w B g N) (hN : N ≤ 1000000000) (hv : Rd w w.heap.size 2 u n xs) (h1 : 1 ≤ n) (hn : n ≤ 14) (hb : bnd xs n 4000) :
    Calls Try.prog 51 #[.pointer (some ⟨g, 0, none⟩), u] w (HandsAny B g (N + 8) w) := by
  have H := Lib.hid h
  have Hv := Lib.hid hv
  have hl := lenTo_bnd hb (n - 1) (by omega)
  have HP := Lib.hid (fun W hv hB => foLength_bnd u n w.heap.size xs W hv hB h1 hn hb)
  obtain ⟨l, el⟩ : ∃ l, lenTo xs (n - 1) = l := ⟨_, rfl⟩
  rw [el] at HP hl
  obtain ⟨l0, l1⟩ := hl
  have l2 : l ≤ 300000 := by omega
  obtain ⟨A, c, rfl⟩ := hv.form
  clear h hv hb el l1
  go_enter Try.func51, Try.ntmps51
  go_wp2_with fail
  refine (HP.out _ Hv.out (Nat.le_refl _)).mono ?_
  rintro e w0 ⟨rfl, hb0⟩
  have C0 := Lib.hid (H.out.grown (only_below (g := g) hb0 |> fun h => (⟨h.os, h.tape, h.output, h.size, fun i hi _ => hb0.block i hi⟩ : w.grownBy w0 none)) (fun k hk => by cases hk))
  have G0 := Lib.hid (only_below (g := g) hb0)
  clear hb0 HP
  have hp : pickHi (l + 1) ≤ 300000 := by unfold pickHi; split <;> omega
  have e1 := IntWalk.i64_in (l + 1) (by omega)
  go_wp2_with fail
  refine (pick_any B g N (l + 1) _ C0.out (by omega) (by omega)).mono ?_
  rintro e w1 ⟨x1, x10, x11, rfl, hc, hg⟩
  have C1 := Lib.hid hc
  have G1 := Lib.hid (grow_trans G0.out hg)
  clear hc hg
  go_wp2_with fail
  refine (pick_any B g (N + 2) (l + 1) _ C1.out (by omega) (by omega)).mono ?_
  rintro e w2 ⟨x2, x20, x21, rfl, hc, hg⟩
  have C2 := Lib.hid hc
  have G2 := Lib.hid (grow_trans G1.out hg)
  clear hc hg
  have A3 := Lib.hid (Blk.new w2 3 (ints [l + 1, -1]).toArray)
  have C39 := Lib.hid (C2.out.alloc (.cells (ints [l + 1, -1]).toArray 3))
  have G39 := Lib.hid (only_alloc G2.out (.cells (ints [l + 1, -1]).toArray 3))
  go_wp2_with fail
  refine (among_blk B g (N + 4) w2.heap.size _ [l + 1, -1] (-1) 300001 _ C39.out (by omega) C2.out.lt A3.out (by simp) (by simp) (by simp; try omega)).mono ?_
  rintro e w3 ⟨y3, y30, y31, rfl, hc, hg⟩
  have C3 := Lib.hid hc
  have G3 := Lib.hid (grow_trans G39.out hg)
  clear hc hg C39 G39 A3
  have A4 := Lib.hid (Blk.new w3 3 (ints [0, x1, x2, l, l, y3]).toArray)
  have C49 := Lib.hid (C3.out.alloc (.cells (ints [0, x1, x2, l, l, y3]).toArray 3))
  have G49 := Lib.hid (only_alloc G3.out (.cells (ints [0, x1, x2, l, l, y3]).toArray 3))
  go_wp2_with fail
  refine (among_blk B g (N + 6) w3.heap.size _ [0, x1, x2, l, l, y3] (-1) 300001 _ C49.out (by omega) C3.out.lt A4.out (by simp) (by simp) (by simp; try omega)).mono ?_
  rintro e w4 ⟨y4, y40, y41, rfl, hc, hg⟩
  have C4 := Lib.hid hc
  have G4 := Lib.hid (grow_trans G49.out hg)
  clear hc hg C49 G49 A4
  go_wp2_with fail
  go_ret
  exact ⟨y4, by omega, rfl, C4.out, G4.out⟩
/-- A list of spots and a number are handed out, in new memory. -/
def DrawnSI (w : World) (e : Ending) (w' : World) : Prop :=
  ∃ (u : Value) (n : Nat) (xs : List Int) (r : Int), e = .returned (.tuple #[u, .int .i64 r]) ∧ w'.ownsRow w.heap.size 29 2 u n (ints xs) ∧ (1 ≤ n ∧ n ≤ 14 ∧ shortBut xs n) ∧ (-1000000 ≤ r ∧ r ≤ 1000000) ∧ Below w.heap.size w w'
set_option maxRecDepth 100000 in
set_option maxHeartbeats 2000000 in
theorem DrawSpotAlong_any (A : Option Addr) (n c : Nat) (w : World) (h : RdB w w.heap.size A n) (hn : n ≤ 9223372036854775807) :
    Calls Try.prog 17 #[.slice A n c] w (DrawnSI w) := by
  have C0 := Lib.hid (Cur.new w A n c h hn)
  clear h
  go_enter Try.func17, Try.ntmps17
  go_wp2_with fail
  refine (way_any _ _ 0 _ C0.out (by omega)).mono ?_
  rintro e w1 ⟨u, k, xs, rfl, ho, k1, k14, ⟨hb, hs⟩, hc, hg⟩
  have HO := Lib.hid ho
  have C1 := Lib.hid hc
  have G1 := Lib.hid hg
  have HB := Lib.hid hb
  have HS := Lib.hid hs
  clear ho hc hg hb hs
  go_wp2_with fail
  refine (wayLengthOf_any _ _ (0 + 300) u k xs _ C1.out (by omega) (Rd.of_own HO.out) k1 k14 HB.out).mono ?_
  rintro e w2 ⟨r, hr, rfl, hc, hg⟩
  have HO2 := Lib.hid (own_g HO.out (by simp) hg)
  have G2 := Lib.hid (grow_trans G1.out hg)
  clear hc hg
  go_wp2_with fail
  go_ret2
  exact ⟨u, k, xs, r, rfl, own_base HO2.out (by simp), ⟨k1, k14, HS.out⟩, hr, below_cur _ G2.out⟩

theorem DrawCornersPassed_any (A : Option Addr) (n c : Nat) (w : World) (h : RdB w w.heap.size A n) (hn : n ≤ 9223372036854775807) :
    Calls Try.prog 5 #[.slice A n c] w (DrawnSI w) := by
  have H := Lib.hid h
  clear h
  go_enter Try.func5, Try.ntmps5
  go_wp2_with fail
  refine (DrawSpotAlong_any A n c _ H.out hn).mono ?_
  rintro e w1 ⟨u, k, xs, r, rfl, ho, hk, hr, hb⟩
  have HO := Lib.hid ho
  have HB := Lib.hid hb
  have HK := Lib.hid hk
  clear ho hb hk
  go_wp2_with fail
  go_ret2
  exact ⟨u, k, xs, r, rfl, HO.out, HK.out, hr, HB.out⟩
set_option maxRecDepth 100000 in
set_option maxHeartbeats 1000000 in
theorem DrawCountsToWalk_any (A : Option Addr) (n c : Nat) (w : World) (h : RdB w w.heap.size A n) (hn : n ≤ 9223372036854775807) :
    Calls Try.prog 18 #[.slice A n c] w (DrawnSI w) := by
  have C0 := Lib.hid (Cur.new w A n c h hn)
  clear h
  go_enter Try.func18, Try.ntmps18
  go_wp2_with fail
  refine (way_any _ _ 0 _ C0.out (by omega)).mono ?_
  rintro e w1 ⟨u, k, xs, rfl, ho, k1, k14, ⟨hb, hs⟩, hc, hg⟩
  have HO := Lib.hid ho
  have C1 := Lib.hid hc
  have G1 := Lib.hid hg
  have HB := Lib.hid hb
  have HS := Lib.hid hs
  clear ho hc hg hb hs
  go_wp2_with fail
  refine (stepOf_any _ _ (0 + 300) _ C1.out (by omega)).mono ?_
  rintro e w2 ⟨r, hr, rfl, hc, hg⟩
  have HO2 := Lib.hid (own_g HO.out (by simp) hg)
  have G2 := Lib.hid (grow_trans G1.out hg)
  clear hc hg
  go_wp2_with fail
  go_ret2
  exact ⟨u, k, xs, r, rfl, own_base HO2.out (by simp), ⟨k1, k14, HS.out⟩, hr, below_cur _ G2.out⟩
/-- A list of spots is handed out, in new memory. -/
def DrawnS (w : World) (e : Ending) (w' : World) : Prop :=
  ∃ (u : Value) (n : Nat) (xs : List Int), e = .returned u ∧ w'.ownsRow w.heap.size 29 2 u n (ints xs) ∧ (1 ≤ n ∧ n ≤ 14 ∧ shortBut xs n) ∧ Below w.heap.size w w'
theorem DrawIsWay_any (A : Option Addr) (n c : Nat) (w : World) (h : RdB w w.heap.size A n) (hn : n ≤ 9223372036854775807) :
    Calls Try.prog 59 #[.slice A n c] w (DrawnS w) := by
  have C0 := Lib.hid (Cur.new w A n c h hn)
  clear h
  go_enter Try.func59, Try.ntmps59
  go_wp2_with fail
  refine (way_any _ _ 0 _ C0.out (by omega)).mono ?_
  rintro e w1 ⟨u, k, xs, rfl, ho, k1, k14, ⟨hb, hs⟩, hc, hg⟩
  have HO := Lib.hid ho
  have C1 := Lib.hid hc
  have G1 := Lib.hid hg
  have HB := Lib.hid hb
  have HS := Lib.hid hs
  clear ho hc hg hb hs
  go_wp2_with fail
  go_ret
  exact ⟨u, k, xs, rfl, own_base HO.out (by simp), ⟨k1, k14, HS.out⟩, below_cur _ G1.out⟩
/-- A list of spots and two numbers are handed out, in new memory. -/
def DrawnSII (w : World) (e : Ending) (w' : World) : Prop :=
  ∃ (u : Value) (n : Nat) (xs : List Int) (r s : Int), e = .returned (.tuple #[u, .int .i64 r, .int .i64 s]) ∧ w'.ownsRow w.heap.size 29 2 u n (ints xs) ∧ (1 ≤ n ∧ n ≤ 14 ∧ shortBut xs n) ∧ ((-1000000 ≤ r ∧ r ≤ 1000000) ∧ -1000000 ≤ s ∧ s ≤ 1000000) ∧ Below w.heap.size w w'
set_option maxRecDepth 100000 in
set_option maxHeartbeats 2000000 in
theorem DrawLeaderAt_any (A : Option Addr) (n c : Nat) (w : World) (h : RdB w w.heap.size A n) (hn : n ≤ 9223372036854775807) :
    Calls Try.prog 12 #[.slice A n c] w (DrawnSII w) := by
  have C0 := Lib.hid (Cur.new w A n c h hn)
  clear h
  go_enter Try.func12, Try.ntmps12
  go_wp2_with fail
  refine (way_any _ _ 0 _ C0.out (by omega)).mono ?_
  rintro e w1 ⟨u, k, xs, rfl, ho, k1, k14, ⟨hb, hs⟩, hc, hg⟩
  have HO := Lib.hid ho
  have C1 := Lib.hid hc
  have G1 := Lib.hid hg
  have HB := Lib.hid hb
  have HS := Lib.hid hs
  clear ho hc hg hb hs
  go_wp2_with fail
  refine (stepOf_any _ _ (0 + 300) _ C1.out (by omega)).mono ?_
  rintro e w2 ⟨r, hr, rfl, hc, hg⟩
  have HO2 := Lib.hid (own_g HO.out (by simp) hg)
  have G2 := Lib.hid (grow_trans G1.out hg)
  have C2 := Lib.hid hc
  clear hc hg
  go_wp2_with fail
  refine (pick_any _ _ (0 + 300 + 4) 40 _ C2.out (by omega) (by omega)).mono ?_
  rintro e w3 ⟨x3, x30, x31, rfl, hc, hg⟩
  simp [pickHi] at x31
  have HO3 := Lib.hid (own_g HO2.out (by simp) hg)
  have G3 := Lib.hid (grow_trans G2.out hg)
  have C3 := Lib.hid hc
  clear hc hg
  have A4 := Lib.hid (Blk.new w3 3 (ints [10001, -1]).toArray)
  have C49 := Lib.hid (C3.out.alloc (.cells (ints [10001, -1]).toArray 3))
  have G49 := Lib.hid (only_alloc G3.out (.cells (ints [10001, -1]).toArray 3))
  have HO49 := Lib.hid (HO3.out.alloc (.cells (ints [10001, -1]).toArray 3))
  go_wp2_with fail
  refine (among_blk _ _ (0 + 300 + 6) w3.heap.size _ [10001, -1] (-1) 10001 _ C49.out (by omega) C3.out.lt A4.out (by simp) (by simp) (by simp; try omega)).mono ?_
  rintro e w4 ⟨y4, y40, y41, rfl, hc, hg⟩
  have C4 := Lib.hid hc
  have G4 := Lib.hid (grow_trans G49.out hg)
  have HO4 := Lib.hid (own_g HO49.out (by simp) hg)
  clear hc hg C49 G49 A4 HO49
  have A5 := Lib.hid (Blk.new w4 3 (ints [0, 1, 5, x3, 10000, y4]).toArray)
  have C59 := Lib.hid (C4.out.alloc (.cells (ints [0, 1, 5, x3, 10000, y4]).toArray 3))
  have G59 := Lib.hid (only_alloc G4.out (.cells (ints [0, 1, 5, x3, 10000, y4]).toArray 3))
  have HO59 := Lib.hid (HO4.out.alloc (.cells (ints [0, 1, 5, x3, 10000, y4]).toArray 3))
  go_wp2_with fail
  refine (among_blk _ _ (0 + 300 + 8) w4.heap.size _ [0, 1, 5, x3, 10000, y4] (-1) 10001 _ C59.out (by omega) C4.out.lt A5.out (by simp) (by simp) (by simp; try omega)).mono ?_
  rintro e w5 ⟨y5, y50, y51, rfl, hc, hg⟩
  have C5 := Lib.hid hc
  have G5 := Lib.hid (grow_trans G59.out hg)
  have HO5 := Lib.hid (own_g HO59.out (by simp) hg)
  clear hc hg C59 G59 A5 HO59
  go_wp2_with fail
  go_ret3
  exact ⟨u, k, xs, r, y5, rfl, own_base HO5.out (by simp), ⟨k1, k14, HS.out⟩, ⟨hr, by omega, by omega⟩, below_cur _ G5.out⟩
end Go.Proofs.Ytciolimmfldpbaa
