/- A drawn way with three numbers, and a drawn way alone. Condition: the source's bytes can be read. -/
import Derived.Test.YtciolimmfldpbaaWayDraws
import Derived.Test.YtciolimmfldpbaaCutFn2
namespace Go.Proofs.Ytciolimmfldpbaa
open Go.RowKit

/-- A list of spots and three numbers are handed out, in new memory. -/
def DrawnSIII (w : World) (e : Ending) (w' : World) : Prop :=
  ∃ (u : Value) (n : Nat) (xs : List Int) (r s t : Int), e = .returned (.tuple #[u, .int .i64 r, .int .i64 s, .int .i64 t]) ∧ w'.ownsRow w.heap.size 29 2 u n (ints xs) ∧ (1 ≤ n ∧ n ≤ 14 ∧ shortBut xs n) ∧ Below w.heap.size w w'
set_option maxRecDepth 100000 in
set_option maxHeartbeats 4000000 in
theorem DrawFileAt_any (A : Option Addr) (n c : Nat) (w : World) (h : RdB w w.heap.size A n) (hn : n ≤ 9223372036854775807) :
    Calls Try.prog 21 #[.slice A n c] w (DrawnSIII w) := by
  have C0 := Lib.hid (Cur.new w A n c h hn)
  clear h
  go_enter Try.func21, Try.ntmps21
  go_wp2_with fail
  refine (way_any _ _ 0 _ C0.out (by omega)).mono ?_
  rintro e w1 ⟨u, k, xs, rfl, ho, k1, k14, ⟨hb, hs⟩, hc, hg⟩
  have HO := Lib.hid ho
  have C1 := Lib.hid hc
  have G1 := Lib.hid hg
  have HB := Lib.hid hb
  have HS := Lib.hid hs
  clear ho hc hg hb hs
  have HO1 := HO
  have A2 := Lib.hid (Blk.new w1 3 (ints [0, 13]).toArray)
  have C29 := Lib.hid (C1.out.alloc (.cells (ints [0, 13]).toArray 3))
  have G29 := Lib.hid (only_alloc G1.out (.cells (ints [0, 13]).toArray 3))
  have HO29 := Lib.hid (HO1.out.alloc (.cells (ints [0, 13]).toArray 3))
  go_wp2_with fail
  refine (among_blk _ _ (0 + 300 + 0) w1.heap.size _ [0, 13] 0 13 _ C29.out (by omega) C1.out.lt A2.out (by simp) (by simp) (by simp; try omega)).mono ?_
  rintro e w2 ⟨y2, y20, y21, rfl, hc, hg⟩
  have C2 := Lib.hid hc
  have G2 := Lib.hid (grow_trans G29.out hg)
  have HO2 := Lib.hid (own_g HO29.out (by simp) hg)
  clear hc hg C29 G29 A2 HO29
  have A3 := Lib.hid (Blk.new w2 3 (ints [1, 2, 3, 5, 12, y2]).toArray)
  have C39 := Lib.hid (C2.out.alloc (.cells (ints [1, 2, 3, 5, 12, y2]).toArray 3))
  have G39 := Lib.hid (only_alloc G2.out (.cells (ints [1, 2, 3, 5, 12, y2]).toArray 3))
  have HO39 := Lib.hid (HO2.out.alloc (.cells (ints [1, 2, 3, 5, 12, y2]).toArray 3))
  go_wp2_with fail
  refine (among_blk _ _ (0 + 300 + 2) w2.heap.size _ [1, 2, 3, 5, 12, y2] 0 13 _ C39.out (by omega) C2.out.lt A3.out (by simp) (by simp) (by simp; try omega)).mono ?_
  rintro e w3 ⟨y3, y30, y31, rfl, hc, hg⟩
  have C3 := Lib.hid hc
  have G3 := Lib.hid (grow_trans G39.out hg)
  have HO3 := Lib.hid (own_g HO39.out (by simp) hg)
  clear hc hg C39 G39 A3 HO39
  have A4 := Lib.hid (Blk.new w3 3 (ints [0, 201]).toArray)
  have C49 := Lib.hid (C3.out.alloc (.cells (ints [0, 201]).toArray 3))
  have G49 := Lib.hid (only_alloc G3.out (.cells (ints [0, 201]).toArray 3))
  have HO49 := Lib.hid (HO3.out.alloc (.cells (ints [0, 201]).toArray 3))
  go_wp2_with fail
  refine (among_blk _ _ (0 + 300 + 4) w3.heap.size _ [0, 201] 0 201 _ C49.out (by omega) C3.out.lt A4.out (by simp) (by simp) (by simp; try omega)).mono ?_
  rintro e w4 ⟨y4, y40, y41, rfl, hc, hg⟩
  have C4 := Lib.hid hc
  have G4 := Lib.hid (grow_trans G49.out hg)
  have HO4 := Lib.hid (own_g HO49.out (by simp) hg)
  clear hc hg C49 G49 A4 HO49
  have A5 := Lib.hid (Blk.new w4 3 (ints [1, 4, 8, 8, 16, 200, y4]).toArray)
  have C59 := Lib.hid (C4.out.alloc (.cells (ints [1, 4, 8, 8, 16, 200, y4]).toArray 3))
  have G59 := Lib.hid (only_alloc G4.out (.cells (ints [1, 4, 8, 8, 16, 200, y4]).toArray 3))
  have HO59 := Lib.hid (HO4.out.alloc (.cells (ints [1, 4, 8, 8, 16, 200, y4]).toArray 3))
  go_wp2_with fail
  refine (among_blk _ _ (0 + 300 + 6) w4.heap.size _ [1, 4, 8, 8, 16, 200, y4] 0 201 _ C59.out (by omega) C4.out.lt A5.out (by simp) (by simp) (by simp; try omega)).mono ?_
  rintro e w5 ⟨y5, y50, y51, rfl, hc, hg⟩
  have C5 := Lib.hid hc
  have G5 := Lib.hid (grow_trans G59.out hg)
  have HO5 := Lib.hid (own_g HO59.out (by simp) hg)
  clear hc hg C59 G59 A5 HO59
  go_wp2_with fail
  refine (one_any _ _ (0 + 300 + 8) 2 _ C5.out (by omega) (by omega)).mono ?_
  rintro e w6 ⟨b, rfl, hc, hg⟩
  have HO6 := Lib.hid (own_g HO5.out (by simp) hg)
  have G6 := Lib.hid (grow_trans G5.out hg)
  have C6 := Lib.hid hc
  clear hc hg
  cases b with
  | true =>
    go_wp2_with fail
    refine (pick_any _ _ (0 + 300 + 8 + 2) 3 _ C6.out (by omega) (by omega)).mono ?_
    rintro e w7 ⟨x7, x70, x71, rfl, hc, hg⟩
    have HO7 := Lib.hid (own_g HO6.out (by simp) hg)
    have G7 := Lib.hid (grow_trans G6.out hg)
    clear hc hg
    go_wp2_with fail
    refine bodyPost_ret (results_tmp4 rfl _ _ _) rfl ?_
    exact ⟨u, k, xs, _, _, _, rfl, own_base HO7.out (by simp), ⟨k1, k14, HS.out⟩, below_cur _ G7.out⟩
  | false =>
    go_wp2_with fail
    refine (wayLengthOf_any _ _ (0 + 300 + 8 + 2) u k xs _ C6.out (by omega) (Rd.of_own HO6.out) k1 k14 HB.out).mono ?_
    rintro e w7 ⟨r, hr, rfl, hc, hg⟩
    have HO7 := Lib.hid (own_g HO6.out (by simp) hg)
    have G7 := Lib.hid (grow_trans G6.out hg)
    clear hc hg
    go_wp2_with fail
    refine bodyPost_ret (results_tmp4 rfl _ _ _) rfl ?_
    exact ⟨u, k, xs, _, _, _, rfl, own_base HO7.out (by simp), ⟨k1, k14, HS.out⟩, below_cur _ G7.out⟩
theorem DrawShortWay_any (A : Option Addr) (n c : Nat) (w : World) (h : RdB w w.heap.size A n) (hn : n ≤ 9223372036854775807) :
    Calls Try.prog 26 #[.slice A n c] w (DrawnS w) := by
  have H := Lib.hid h
  clear h
  go_enter Try.func26, Try.ntmps26
  go_wp2_with fail
  refine (DrawIsWay_any A n c _ H.out hn).mono ?_
  rintro e w1 ⟨u, k, xs, rfl, ho, hk, hb⟩
  have HO := Lib.hid ho
  have HB := Lib.hid hb
  have HK := Lib.hid hk
  clear ho hb hk
  go_wp2_with fail
  go_ret
  exact ⟨u, k, xs, rfl, HO.out, HK.out, HB.out⟩
end Go.Proofs.Ytciolimmfldpbaa
